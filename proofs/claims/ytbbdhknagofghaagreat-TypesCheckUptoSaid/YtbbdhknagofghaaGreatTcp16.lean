import Derived.Test.YtbbdhknagofghaaGreatTcp15
set_option linter.all false
set_option maxHeartbeats 1000000
set_option maxRecDepth 100000
open Go.Proofs.Tryz
namespace Go.Proofs.YtbbdhknagofghaaGreat
open _root_.Go.RowKit.Below renaming refl→Bi
open _root_.List renaming isEmpty_iff→Bx
open _root_.Bool renaming eq_false_iff→BD, and_assoc→BJ
open Go.RowKit
theorem nI {m:Int} {B:Nat} (a:Ac) (cs:List Value) (w:World) (hB:B≤w.heap.size) (h0:0<B) (hz:w.cell? ⟨0,0,none⟩=some (.int .i64 m)) (hr:yw w B cs a):
  Calls prog 65 #[.agg cs.toArray] w fun r w'=>r=.returned (.bool (nB a))∧Below w.heap.size w w':=by
 obtain ⟨A1,c1,A2,c2,rfl,hn,hP,hS⟩:=hr
 have l1:=hP.len
 have l2:=hS.len
 obtain ⟨wa,hwa,hsa,hba,hca,-⟩:=al w #[.string a.name,.slice A1 a.params.length c1,.slice A2 a.body.length c2] 72
 obtain ⟨y0,y1,y2⟩:=bF hca
 have hb0:Below wa.heap.size wa wa:=Bi _ _
 have hBk:=aa (show ∀ W,Below wa.heap.size wa W→Below w.heap.size w W from fun W hb=>hba.trans (hb.mono (by omega)))
 have hc0:∀ W,Below wa.heap.size wa W→W.cell? ⟨0,0,none⟩=some (.int .i64 m):=fun W hb=>((bx hb 0 0 (by omega)).trans ((bx hba 0 0 (by omega)).trans hz))
 have hBW:∀ W,Below wa.heap.size wa W→B≤W.heap.size:=fun W hb=>by have:=hb.size;omega
 have hk:∀ W,Below wa.heap.size wa W→Below B w W:=fun W hb=>(hba.trans (hb.mono (by omega))).mono hB
 have q1:=aa (fun W hb=>aV a.name m W hn (hc0 W hb))
 have q2:=aa (fun (W:World) (hb:Below wa.heap.size wa W)=>(iV a.params A1 c1 W (hBW W hb) h0 (hc0 W hb) (hP.below bA (hk W hb))).mono (fun e w' h=>(⟨h.1,hb.trans (h.2.mono hb.size)⟩:e=_∧Below wa.heap.size wa w')))
 have q3:=aa (fun (W:World) (hb:Below wa.heap.size wa W)=>(lU a.body (fun x _=>oE x) A2 c2 W 1 (by omega) (hBW W hb) h0 (hc0 W hb) (hS.below be (hk W hb))).mono (fun e w' h=>(⟨h.1,hb.trans (h.2.mono hb.size)⟩:e=_∧Below wa.heap.size wa w')))
 have hv:nB a=(av a.name&&(decide (a.params.length≤8)&&(a.params.all gB&&aY a.body 1))):=by
  simp only [nB,BJ]
 rw [hv]
 generalize av a.name=z1 at q1 ⊢
 generalize a.params.all gB=z2 at q2 ⊢
 generalize aY a.body 1=z3 at q3 ⊢
 show Calls _ _ #[.agg #[.string a.name,.slice A1 a.params.length c1,.slice A2 a.body.length c2]] _ _
 clear hca hba hc0 hBW hv hk hP hS hz
 cases z1
 rotate_right
 focus
  by_cases n1:a.params.length≤8
  focus
   rw [decide_eq_true n1]
   have i1:(a.params.length:Int)≤8:=by omega
   cases z2
   rotate_right
   focus cases z3
  rotate_right
  rw [decide_eq_false n1]
  have i1:¬((a.params.length:Int)≤8):=by omega
 all_goals
  go_enter func65,ntmps65
  go_wp2_with (first|(go_at_call 58;(with_reducible refine (q1.out _ ‹_›).mono ?_;rintro e w1 ⟨rfl,rfl⟩))|(go_at_call 59;refine (q2.out _ ‹_›).mono ?_;rintro e w1 ⟨rfl,hb2⟩;have khb2:=ab hb2)|(go_at_call 68;refine (q3.out _ ‹_›).mono ?_;rintro e w1 ⟨rfl,hb3⟩;have khb3:=ab hb3))
  go_ret
  exact ⟨ah (by first|(simp;done)|(simp;omega)|(simp;unfold wrap64;omega)),hBk.out _ ‹_›⟩
theorem li:∀ args w,(callFunc 136 args).run prog w=.ok (.enter 136 args) w:=enters_of func136 (by kernel_rfl) rfl
theorem xA {m:Int} {B:Nat} (keys:Nat) (A2:Option Addr) (c2 bs:Nat) (c:Ca) (cs:List Value) (w:World) (hB:B≤w.heap.size) (h0:0<B) (hz:w.cell? ⟨0,0,none⟩=some (.int .i64 m)) (hkl:keys≤maxLen) (hs3:w.cell? ⟨bs,3,none⟩=some (.slice A2 keys c2)) (hr:Ar w B cs c):
  Calls prog 136 #[.agg cs.toArray,.pointer (some ⟨bs,0,none⟩)] w fun r w'=>r=.returned (.bool (ua keys c))∧Below w.heap.size w w':=by
 obtain ⟨A1,c1,rfl,hn,hS⟩:=hr
 have l1:=hS.len
 have hkl':keys≤9223372036854775807:=hkl
 obtain ⟨wa,hwa,hsa,hba,hca,-⟩:=al w #[.bool c.dflt,.slice A1 c.sets.length c1,.string c.dest] 70
 obtain ⟨y0,y1,y2⟩:=bF hca
 have hbs:bs<w.heap.size:=World.block_lt_of_cell? w _ hs3
 have s3:wa.cell? ⟨bs,3,none⟩=some (.slice A2 keys c2):=(hba.cell (p:=⟨bs,3,none⟩) hbs).trans hs3
 have hb0:Below wa.heap.size wa wa:=Bi _ _
 have hBk:=aa (show ∀ W,Below wa.heap.size wa W→Below w.heap.size w W from fun W hb=>hba.trans (hb.mono (by omega)))
 have hc0:∀ W,Below wa.heap.size wa W→W.cell? ⟨0,0,none⟩=some (.int .i64 m):=fun W hb=>((bx hb 0 0 (by omega)).trans ((bx hba 0 0 (by omega)).trans hz))
 have hBW:∀ W,Below wa.heap.size wa W→B≤W.heap.size:=fun W hb=>by have:=hb.size;omega
 have hk:∀ W,Below wa.heap.size wa W→Below B w W:=fun W hb=>(hba.trans (hb.mono (by omega))).mono hB
 have q1:=aa (fun W hb=>jt c.dest m W hn (hc0 W hb))
 have q2:=aa (fun (W:World) (hb:Below wa.heap.size wa W)=>(xy c.sets A1 c1 W (hBW W hb) h0 (hc0 W hb) (hS.below jW (hk W hb))).mono (fun e w' h=>(⟨h.1,hb.trans (h.2.mono hb.size)⟩:e=_∧Below wa.heap.size wa w')))
 generalize hnn:(if c.dflt then 0 else keys)=n
 have hv:ua keys c=(bY c.dest&&(decide (c.sets.length=n)&&c.sets.all fA)):=by
  simp only [ua,BJ,hnn]
 rw [hv]
 generalize bY c.dest=z1 at q1 ⊢
 generalize c.sets.all fA=z2 at q2 ⊢
 show Calls _ _ #[.agg #[.bool c.dflt,.slice A1 c.sets.length c1,.string c.dest],.pointer (some ⟨bs,0,none⟩)] _ _
 clear hca hba hc0 hBW hv hk hS hz hs3
 generalize c.dflt=df at*
 generalize c.sets.length=N at*
 cases df
 focus
  obtain rfl:keys=n:=hnn
  cases z1
  rotate_right
  focus
   by_cases n1:N=keys
   focus
    rw [decide_eq_true n1]
    subst n1
    cases z2
   rotate_right
   rw [decide_eq_false n1]
   have i1:¬((N:Int)=(keys:Int)):=by omega
 rotate_right
 focus
  obtain rfl:0=n:=hnn
  cases z1
  rotate_right
  focus
   by_cases n1:N=0
   focus
    rw [decide_eq_true n1]
    subst n1
    cases z2
   rotate_right
   rw [decide_eq_false n1]
   have i1:¬((N:Int)=0):=by omega
 all_goals
  go_enter func136,ntmps136
  go_wp2_with (first|(go_at_call 134;(with_reducible refine (q1.out _ ‹_›).mono ?_;rintro e w1 ⟨rfl,rfl⟩))|(go_at_call 137;refine (q2.out _ ‹_›).mono ?_;rintro e w1 ⟨rfl,hb2⟩;have khb2:=ab hb2))
  go_ret
  exact ⟨ah (by first|(simp;done)|(simp;omega)|(simp;unfold wrap64;omega)),hBk.out _ ‹_›⟩
theorem vk {m:Int} {B:Nat} (keys:Nat) (A2:Option Addr) (c2 bs:Nat) (l:List Ca) (A:Option Addr) (cap:Nat) (w:World) (hB:B≤w.heap.size) (h0:0<B) (hz:w.cell? ⟨0,0,none⟩=some (.int .i64 m)) (hkl:keys≤maxLen) (hs3:w.cell? ⟨bs,3,none⟩=some (.slice A2 keys c2)) (h:Sl 3 Ar w B A l):
  Calls prog 135 #[.slice A l.length cap,.func (.func 136) #[] #[.pointer (some ⟨bs,0,none⟩)]] w fun e w'=>e=.returned (.bool (l.all (ua keys)))∧Below w.heap.size w w':=
 wZ eD 136 #[.pointer (some ⟨bs,0,none⟩)] li (ua keys) A cap l w hB h (fun i x cs W hx hb hr hel=>xA keys A2 c2 bs x cs W (by have:=hb.size;omega) h0 (fo (by omega) hz hb) hkl ((hb.cell (p:=⟨bs,3,none⟩) (World.block_lt_of_cell? w _ hs3)).trans hs3) hr)
theorem pC {m:Int} {B:Nat} (s:Sa) (cs:List Value) (w:World) (hB:B≤w.heap.size) (h0:0<B) (hz:w.cell? ⟨0,0,none⟩=some (.int .i64 m)) (hr:wS w B cs s):
  Calls prog 63 #[.agg cs.toArray] w fun r w'=>r=.returned (.bool (lT s))∧Below w.heap.size w w':=by
 obtain ⟨A1,c1,A2,c2,A3,c3,rfl,hn,hd,hT,hK,hC⟩:=hr
 have l1:=hT.len
 have l2:=hK.len
 have l3:=hC.len
 obtain ⟨wa,hwa,hsa,hba,hca,-⟩:=al w #[.string s.name,.slice A1 s.takes.length c1,.string s.dest,.slice A2 s.keys.length c2,.slice A3 s.cases_.length c3] 61
 obtain ⟨y0,y1,y2,y3,y4⟩:=fR hca
 have hb0:Below wa.heap.size wa wa:=Bi _ _
 have hBk:=aa (show ∀ W,Below wa.heap.size wa W→Below w.heap.size w W from fun W hb=>hba.trans (hb.mono (by omega)))
 have hc0:∀ W,Below wa.heap.size wa W→W.cell? ⟨0,0,none⟩=some (.int .i64 m):=fun W hb=>((bx hb 0 0 (by omega)).trans ((bx hba 0 0 (by omega)).trans hz))
 have hBW:∀ W,Below wa.heap.size wa W→B≤W.heap.size:=fun W hb=>by have:=hb.size;omega
 have hk:∀ W,Below wa.heap.size wa W→Below B w W:=fun W hb=>(hba.trans (hb.mono (by omega))).mono hB
 have q1:=aa (fun W hb=>aV s.name m W hn (hc0 W hb))
 have q3:=aa (fun W hb=>jt s.dest m W hd (hc0 W hb))
 have q2:=aa (fun (W:World) (hb:Below wa.heap.size wa W)=>(kn s.takes A1 c1 W (hBW W hb) h0 (hc0 W hb) (hT.below aW (hk W hb))).mono (fun e w' h=>(⟨h.1,hb.trans (h.2.mono hb.size)⟩:e=_∧Below wa.heap.size wa w')))
 have q4:=aa (fun (W:World) (hb:Below wa.heap.size wa W)=>(vj s.keys A2 c2 W (hBW W hb) h0 (hc0 W hb) (hK.below ai (hk W hb))).mono (fun e w' h=>(⟨h.1,hb.trans (h.2.mono hb.size)⟩:e=_∧Below wa.heap.size wa w')))
 have q5:=aa (fun (W:World) (hb:Below wa.heap.size wa W)=>(vk s.keys.length A2 c2 w.heap.size s.cases_ A3 c3 W (hBW W hb) h0 (hc0 W hb) l2 ((bx hb w.heap.size 3 (by omega)).trans y3) (hC.below eD (hk W hb))).mono (fun e w' h=>(⟨h.1,hb.trans (h.2.mono hb.size)⟩:e=_∧Below wa.heap.size wa w')))
 have eg:=li
 have hle:w.heap.size≤wa.heap.size:=by omega
 by_cases hs:s.dest=aB
 focus
  have hv:lT s=(av s.name&&(decide (s.takes.length≤8)&&(s.takes.all av&&(decide (1≤s.keys.length)&&(decide (s.keys.length≤4)&&(decide (1≤s.cases_.length)&&(decide (s.cases_.length≤16)&&(s.keys.all cj&&s.cases_.all (ua s.keys.length))))))))):=by
   unfold lT
   rw [if_pos hs]
   simp only [Bool.decide_and,BJ]
  rw [hv]
  have e1:=ak.1 hs
  generalize av s.name=z1 at q1 ⊢
  generalize s.takes.all av=z2 at q2 ⊢
  generalize s.keys.all cj=z4 at q4 ⊢
  generalize s.cases_.all (ua s.keys.length)=z5 at q5 ⊢
  show Calls _ _ #[.agg #[.string s.name,.slice A1 s.takes.length c1,.string s.dest,.slice A2 s.keys.length c2,.slice A3 s.cases_.length c3]] _ _
  clear hca hba hc0 hBW hv hk hT hK hC hz hs q3
  cases z1
  rotate_right
  focus
   by_cases n1:s.takes.length≤8
   focus
    rw [decide_eq_true n1]
    have i1:(s.takes.length:Int)≤8:=by omega
    cases z2
    rotate_right
    focus
     by_cases n3:1≤s.keys.length
     focus
      rw [decide_eq_true n3]
      have i3:1≤(s.keys.length:Int):=by omega
      by_cases n4:s.keys.length≤4
      focus
       rw [decide_eq_true n4]
       have i4:(s.keys.length:Int)≤4:=by omega
       by_cases n5:1≤s.cases_.length
       focus
        rw [decide_eq_true n5]
        have i5:1≤(s.cases_.length:Int):=by omega
        by_cases n6:s.cases_.length≤16
        focus
         rw [decide_eq_true n6]
         have i6:(s.cases_.length:Int)≤16:=by omega
         cases z4
         rotate_right
         focus cases z5
        rotate_right
        rw [decide_eq_false n6]
        have i6:¬((s.cases_.length:Int)≤16):=by omega
       rotate_right
       rw [decide_eq_false n5]
       have i5:¬(1≤(s.cases_.length:Int)):=by omega
      rotate_right
      rw [decide_eq_false n4]
      have i4:¬((s.keys.length:Int)≤4):=by omega
     rotate_right
     rw [decide_eq_false n3]
     have i3:¬(1≤(s.keys.length:Int)):=by omega
   rotate_right
   rw [decide_eq_false n1]
   have i1:¬((s.takes.length:Int)≤8):=by omega
 rotate_right
 focus
  have hv:lT s=(av s.name&&(decide (s.takes.length≤8)&&(s.takes.all av&&(bY s.dest&&decide (s.keys.length+s.cases_.length=0))))):=by
   unfold lT
   rw [if_neg hs]
   have:(s.keys.isEmpty&&s.cases_.isEmpty)=decide (s.keys.length+s.cases_.length=0):=by
    cases s.keys<;>cases s.cases_<;>simp
   rw [←this]
   simp only [BJ]
  rw [hv]
  have e1:s.dest.toList.isEmpty=false:=by rw [BD];exact fun h=>hs (ak.2 (Bx.1 h))
  generalize av s.name=z1 at q1 ⊢
  generalize s.takes.all av=z2 at q2 ⊢
  generalize bY s.dest=z3 at q3 ⊢
  show Calls _ _ #[.agg #[.string s.name,.slice A1 s.takes.length c1,.string s.dest,.slice A2 s.keys.length c2,.slice A3 s.cases_.length c3]] _ _
  clear hca hba hc0 hBW hv hk hT hK hC hz hs q4 q5
  cases z1
  rotate_right
  focus
   by_cases n1:s.takes.length≤8
   focus
    rw [decide_eq_true n1]
    have i1:(s.takes.length:Int)≤8:=by omega
    cases z2
    rotate_right
    focus
     cases z3
     rotate_right
     focus
      by_cases n4:s.keys.length+s.cases_.length=0
      rw [decide_eq_true n4]
      have i4:wrap64 ((s.keys.length:Int)+(s.cases_.length:Int))=0:=by unfold wrap64;omega
      rotate_right
      rw [decide_eq_false n4]
      have i4:¬(wrap64 ((s.keys.length:Int)+(s.cases_.length:Int))=0):=by unfold wrap64;omega
   rotate_right
   rw [decide_eq_false n1]
   have i1:¬((s.takes.length:Int)≤8):=by omega
  all_goals
   go_enter func63,ntmps63
   go_wp2_with (first|(go_at_call 58;(with_reducible refine (q1.out _ ‹_›).mono ?_;rintro e w1 ⟨rfl,rfl⟩))|(go_at_call 134;(with_reducible refine (q3.out _ ‹_›).mono ?_;rintro e w1 ⟨rfl,rfl⟩))|(go_at_call 69;refine (q2.out _ ‹_›).mono ?_;rintro e w1 ⟨rfl,hb2⟩;have khb2:=ab hb2))
   go_ret
   exact ⟨ah (by first|(simp;done)|(simp;omega)|(simp;unfold wrap64;omega)),hBk.out _ ‹_›⟩
 all_goals
  go_enter func63,ntmps63
  go_wp2_with (first|(go_at_call 58;(with_reducible refine (q1.out _ ‹_›).mono ?_;rintro e w1 ⟨rfl,rfl⟩))|(go_at_call 69;refine (q2.out _ ‹_›).mono ?_;rintro e w1 ⟨rfl,hb2⟩;have khb2:=ab hb2)|(go_at_call 52;refine (q4.out _ ‹_›).mono ?_;rintro e w1 ⟨rfl,hb4⟩;have khb4:=ab hb4)|(go_at_call 135;refine (q5.out _ ‹_›).mono ?_;rintro e w1 ⟨rfl,hb5⟩;have khb5:=ab hb5))
  go_ret
  exact ⟨ah (by first|(simp;done)|(simp;omega)|(simp;unfold wrap64;omega)),hBk.out _ ‹_›⟩
end Go.Proofs.YtbbdhknagofghaaGreat

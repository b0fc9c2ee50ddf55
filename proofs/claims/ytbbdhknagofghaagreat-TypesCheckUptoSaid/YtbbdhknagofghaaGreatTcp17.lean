import Derived.Test.YtbbdhknagofghaaGreatTcp16
set_option linter.all false
set_option maxHeartbeats 1000000
set_option maxRecDepth 100000
open Go.Proofs.Tryz
namespace Go.Proofs.YtbbdhknagofghaaGreat
open _root_.Go.RowKit.Below renaming refl→Bi
open _root_.Bool renaming and_assoc→BJ
open Go.RowKit
theorem oF:∀ args w,(callFunc 57 args).run prog w=.ok (.enter 57 args) w:=enters_of func57 (by kernel_rfl) rfl
theorem pD:∀ args w,(callFunc 63 args).run prog w=.ok (.enter 63 args) w:=enters_of func63 (by kernel_rfl) rfl
theorem pE:∀ args w,(callFunc 65 args).run prog w=.ok (.enter 65 args) w:=enters_of func65 (by kernel_rfl) rfl
theorem pF:∀ args w,(callFunc 67 args).run prog w=.ok (.enter 67 args) w:=enters_of func67 (by kernel_rfl) rfl
theorem xB {m:Int} {B:Nat} (h:Hd) (cs:List Value) (w:World) (hB:B≤w.heap.size) (h0:0<B) (hz:w.cell? ⟨0,0,none⟩=some (.int .i64 m)) (hr:yv w B cs h):
  Calls prog 57 #[.agg cs.toArray] w fun r w'=>r=.returned (.bool (iJ h))∧Below w.heap.size w w':=by
 obtain ⟨A1,c1,rfl,hn,hS⟩:=hr
 have l1:=hS.len
 obtain ⟨wa,hwa,hsa,hba,hca,-⟩:=al w #[.string h.name,.slice A1 h.fields.length c1] 66
 have y0:wa.cell? ⟨w.heap.size,0,none⟩=some (.string h.name):=hca 0
 have y1:wa.cell? ⟨w.heap.size,1,none⟩=some (.slice A1 h.fields.length c1):=hca 1
 have hb0:Below wa.heap.size wa wa:=Bi _ _
 have hBk:=aa (show ∀ W,Below wa.heap.size wa W→Below w.heap.size w W from fun W hb=>hba.trans (hb.mono (by omega)))
 have hc0:∀ W,Below wa.heap.size wa W→W.cell? ⟨0,0,none⟩=some (.int .i64 m):=fun W hb=>((bx hb 0 0 (by omega)).trans ((bx hba 0 0 (by omega)).trans hz))
 have hBW:∀ W,Below wa.heap.size wa W→B≤W.heap.size:=fun W hb=>by have:=hb.size;omega
 have hk:∀ W,Below wa.heap.size wa W→Below B w W:=fun W hb=>(hba.trans (hb.mono (by omega))).mono hB
 have q1:=aa (fun W hb=>aV h.name m W hn (hc0 W hb))
 have q2:=aa (fun (W:World) (hb:Below wa.heap.size wa W)=>(iV h.fields A1 c1 W (hBW W hb) h0 (hc0 W hb) (hS.below bA (hk W hb))).mono (fun e w' h=>(⟨h.1,hb.trans (h.2.mono hb.size)⟩:e=_∧Below wa.heap.size wa w')))
 have hv:iJ h=(av h.name&&(decide (1≤h.fields.length)&&(decide (h.fields.length≤16)&&h.fields.all gB))):=by
  simp only [iJ,Bool.decide_and,BJ]
 rw [hv]
 generalize av h.name=z1 at q1 ⊢
 generalize h.fields.all gB=z2 at q2 ⊢
 show Calls _ _ #[.agg #[.string h.name,.slice A1 h.fields.length c1]] _ _
 clear hca hba hc0 hBW hv hk hS hz
 cases z1
 rotate_right
 focus
  by_cases n1:1≤h.fields.length
  focus
   rw [decide_eq_true n1]
   have i1:1≤(h.fields.length:Int):=by omega
   by_cases n2:h.fields.length≤16
   focus
    rw [decide_eq_true n2]
    have i2:(h.fields.length:Int)≤16:=by omega
    cases z2
   rotate_right
   rw [decide_eq_false n2]
   have i2:¬((h.fields.length:Int)≤16):=by omega
  rotate_right
  rw [decide_eq_false n1]
  have i1:¬(1≤(h.fields.length:Int)):=by omega
 all_goals
  go_enter func57,ntmps57
  go_wp2_with (first|(go_at_call 58;(with_reducible refine (q1.out _ ‹_›).mono ?_;rintro e w1 ⟨rfl,rfl⟩))|(go_at_call 59;refine (q2.out _ ‹_›).mono ?_;rintro e w1 ⟨rfl,hb2⟩;have khb2:=ab hb2))
  go_ret
  exact ⟨ah (by first|(simp;done)|(simp;omega)|(simp;unfold wrap64;omega)),hBk.out _ ‹_›⟩
theorem vm {m:Int} {B:Nat} (l:List Hd) (A:Option Addr) (cap:Nat) (w:World) (hB:B≤w.heap.size) (h0:0<B) (hz:w.cell? ⟨0,0,none⟩=some (.int .i64 m)) (h:Sl 2 yv w B A l):
  Calls prog 61 #[.slice A l.length cap,.func (.func 57) #[] #[]] w fun e w'=>e=.returned (.bool (l.all iJ))∧Below w.heap.size w w':=
 sF fS 57 #[] oF iJ A cap l w hB h (fun i x cs W hx hb hr hel=>xB x cs W (by have:=hb.size;omega) h0 (fo (by omega) hz hb) hr)
theorem sS {m:Int} {B:Nat} (l:List Sa) (A:Option Addr) (cap:Nat) (w:World) (hB:B≤w.heap.size) (h0:0<B) (hz:w.cell? ⟨0,0,none⟩=some (.int .i64 m)) (h:Sl 5 wS w B A l):
  Calls prog 62 #[.slice A l.length cap,.func (.func 63) #[] #[]] w fun e w'=>e=.returned (.bool (l.all lT))∧Below w.heap.size w w':=
 uK gE 63 #[] pD lT A cap l w hB h (fun i x cs W hx hb hr hel=>pC x cs W (by have:=hb.size;omega) h0 (fo (by omega) hz hb) hr)
theorem xC {m:Int} {B:Nat} (l:List Ac) (A:Option Addr) (cap:Nat) (w:World) (hB:B≤w.heap.size) (h0:0<B) (hz:w.cell? ⟨0,0,none⟩=some (.int .i64 m)) (h:Sl 3 yw w B A l):
  Calls prog 64 #[.slice A l.length cap,.func (.func 65) #[] #[]] w fun e w'=>e=.returned (.bool (l.all nB))∧Below w.heap.size w w':=
 sG fT 65 #[] pE nB A cap l w hB h (fun i x cs W hx hb hr hel=>nI x cs W (by have:=hb.size;omega) h0 (fo (by omega) hz hb) hr)
theorem xD {m:Int} {B:Nat} (l:List Ta) (A:Option Addr) (cap:Nat) (w:World) (hB:B≤w.heap.size) (h0:0<B) (hz:w.cell? ⟨0,0,none⟩=some (.int .i64 m)) (h:Sl 5 wT w B A l):
  Calls prog 66 #[.slice A l.length cap,.func (.func 67) #[] #[]] w fun e w'=>e=.returned (.bool (l.all ob))∧Below w.heap.size w w':=
 uL gF 67 #[] pF ob A cap l w hB h (fun i x cs W hx hb hr hel=>pB x cs W (by have:=hb.size;omega) h0 (fo (by omega) hz hb) hr)
theorem yX {m:Int} {B:Nat} (w:World) (A1 A2 A3 A4 A5 A6 A7:Option Addr) (p:Pg) (c1 c2 c3 c4 c5 c6 c7:Nat) (hB:B≤w.heap.size) (h0:0<B) (hz:w.cell? ⟨0,0,none⟩=some (.int .i64 m)) (h:bu w B A1 A2 A3 A4 A5 A6 A7 p):
  Calls prog 30 #[.agg (aq p A1 A2 A3 A4 A5 A6 A7 c1 c2 c3 c4 c5 c6 c7)] w fun r w'=>r=.returned (.bool (bg p))∧Below w.heap.size w w':=by
 unfold aq
 have l1:=h.1.len
 have l2:=h.2.len
 have l3:=h.3.len
 have l4:=h.4.len
 have l5:=h.5.len
 have l6:=h.6.len
 have l7:=h.7.len
 obtain ⟨wa,hwa,hsa,hba,hca,-⟩:=al w (aq p A1 A2 A3 A4 A5 A6 A7 c1 c2 c3 c4 c5 c6 c7) 30
 obtain ⟨y0,y1,y2,y3,y4,y5,y6⟩:=aF (w:=wa) (a:=w.heap.size) fun i=>hca i
 have hb0:Below wa.heap.size wa wa:=Bi _ _
 have hBk:=aa (show ∀ W,Below wa.heap.size wa W→Below w.heap.size w W from fun W hb=>hba.trans (hb.mono (by omega)))
 have hc0:∀ W,Below wa.heap.size wa W→W.cell? ⟨0,0,none⟩=some (.int .i64 m):=fun W hb=>((bx hb 0 0 (by omega)).trans ((bx hba 0 0 (by omega)).trans hz))
 have hBW:∀ W,Below wa.heap.size wa W→B≤W.heap.size:=fun W hb=>by have:=hb.size;omega
 have hk:∀ W,Below wa.heap.size wa W→bu W B A1 A2 A3 A4 A5 A6 A7 p:=fun W hb=>h.below ((hba.trans (hb.mono (by omega))).mono hB)
 have q1:=aa (fun (W:World) (hb:Below wa.heap.size wa W)=>(vm p.headers A1 c1 W (hBW W hb) h0 (hc0 W hb) (hk W hb).headers).mono (fun e w' h=>(⟨h.1,hb.trans (h.2.mono hb.size)⟩:e=_∧Below wa.heap.size wa w')))
 have q2:=aa (fun (W:World) (hb:Below wa.heap.size wa W)=>(iV p.metas A2 c2 W (hBW W hb) h0 (hc0 W hb) (hk W hb).metas).mono (fun e w' h=>(⟨h.1,hb.trans (h.2.mono hb.size)⟩:e=_∧Below wa.heap.size wa w')))
 have q3:=aa (fun (W:World) (hb:Below wa.heap.size wa W)=>(sS p.states A3 c3 W (hBW W hb) h0 (hc0 W hb) (hk W hb).states).mono (fun e w' h=>(⟨h.1,hb.trans (h.2.mono hb.size)⟩:e=_∧Below wa.heap.size wa w')))
 have q4:=aa (fun (W:World) (hb:Below wa.heap.size wa W)=>(xC p.actions A4 c4 W (hBW W hb) h0 (hc0 W hb) (hk W hb).actions).mono (fun e w' h=>(⟨h.1,hb.trans (h.2.mono hb.size)⟩:e=_∧Below wa.heap.size wa w')))
 have q5:=aa (fun (W:World) (hb:Below wa.heap.size wa W)=>(xD p.tables A5 c5 W (hBW W hb) h0 (hc0 W hb) (hk W hb).tables).mono (fun e w' h=>(⟨h.1,hb.trans (h.2.mono hb.size)⟩:e=_∧Below wa.heap.size wa w')))
 have q6:=aa (fun (W:World) (hb:Below wa.heap.size wa W)=>(lU p.control (fun x _=>oE x) A6 c6 W 1 (by omega) (hBW W hb) h0 (hc0 W hb) (hk W hb).control).mono (fun e w' h=>(⟨h.1,hb.trans (h.2.mono hb.size)⟩:e=_∧Below wa.heap.size wa w')))
 have q7:=aa (fun (W:World) (hb:Below wa.heap.size wa W)=>(kn p.emit A7 c7 W (hBW W hb) h0 (hc0 W hb) (hk W hb).emit).mono (fun e w' h=>(⟨h.1,hb.trans (h.2.mono hb.size)⟩:e=_∧Below wa.heap.size wa w')))
 have hv:bg p=(decide (p.headers.length≤8)&&(decide (p.metas.length≤16)&&(decide (1≤p.states.length)&&(decide (p.states.length≤16)&&(decide (p.actions.length≤16)&&(decide (p.tables.length≤8)&&(decide (p.emit.length≤8)&&(p.headers.all iJ&&(p.metas.all gB&&(p.states.all lT&&(p.actions.all nB&&(p.tables.all ob&&(aY p.control 1&&p.emit.all av))))))))))))):=by
  simp only [bg,qo,Bool.decide_and,BJ]
 rw [hv]
 generalize p.headers.all iJ=z1 at q1 ⊢
 generalize p.metas.all gB=z2 at q2 ⊢
 generalize p.states.all lT=z3 at q3 ⊢
 generalize p.actions.all nB=z4 at q4 ⊢
 generalize p.tables.all ob=z5 at q5 ⊢
 generalize aY p.control 1=z6 at q6 ⊢
 generalize p.emit.all av=z7 at q7 ⊢
 clear hca hba hc0 hBW hv hk hz h
 have eg1:=oF
 by_cases n0:p.headers.length≤8
 focus
  rw [decide_eq_true n0]
  have i0:(p.headers.length:Int)≤8:=by omega
  by_cases n1:p.metas.length≤16
  focus
   rw [decide_eq_true n1]
   have i1:(p.metas.length:Int)≤16:=by omega
   by_cases n2:1≤p.states.length
   focus
    rw [decide_eq_true n2]
    have i2:1≤(p.states.length:Int):=by omega
    by_cases n3:p.states.length≤16
    focus
     rw [decide_eq_true n3]
     have i3:(p.states.length:Int)≤16:=by omega
     by_cases n4:p.actions.length≤16
     focus
      rw [decide_eq_true n4]
      have i4:(p.actions.length:Int)≤16:=by omega
      by_cases n5:p.tables.length≤8
      focus
       rw [decide_eq_true n5]
       have i5:(p.tables.length:Int)≤8:=by omega
       by_cases n6:p.emit.length≤8
       focus
        rw [decide_eq_true n6]
        have i6:(p.emit.length:Int)≤8:=by omega
        cases z1
        rotate_right
        focus
         cases z2
         rotate_right
         focus
          cases z3
          rotate_right
          focus
           cases z4
           rotate_right
           focus
            cases z5
            rotate_right
            focus
             cases z6
             rotate_right
             focus cases z7
       rotate_right
       rw [decide_eq_false n6]
       have i6:¬((p.emit.length:Int)≤8):=by omega
      rotate_right
      rw [decide_eq_false n5]
      have i5:¬((p.tables.length:Int)≤8):=by omega
     rotate_right
     rw [decide_eq_false n4]
     have i4:¬((p.actions.length:Int)≤16):=by omega
    rotate_right
    rw [decide_eq_false n3]
    have i3:¬((p.states.length:Int)≤16):=by omega
   rotate_right
   rw [decide_eq_false n2]
   have i2:¬(1≤(p.states.length:Int)):=by omega
  rotate_right
  rw [decide_eq_false n1]
  have i1:¬((p.metas.length:Int)≤16):=by omega
 rotate_right
 rw [decide_eq_false n0]
 have i0:¬((p.headers.length:Int)≤8):=by omega
 all_goals
  go_enter func30,ntmps30
  go_wp2_with (first|(go_at_call 61;refine (q1.out _ ‹_›).mono ?_;rintro e w1 ⟨rfl,hb1⟩;have khb1:=ab hb1)|(go_at_call 59;refine (q2.out _ ‹_›).mono ?_;rintro e w1 ⟨rfl,hb2⟩;have khb2:=ab hb2)|(go_at_call 62;refine (q3.out _ ‹_›).mono ?_;rintro e w1 ⟨rfl,hb3⟩;have khb3:=ab hb3)|(go_at_call 64;refine (q4.out _ ‹_›).mono ?_;rintro e w1 ⟨rfl,hb4⟩;have khb4:=ab hb4)|(go_at_call 66;refine (q5.out _ ‹_›).mono ?_;rintro e w1 ⟨rfl,hb5⟩;have khb5:=ab hb5)|(go_at_call 68;refine (q6.out _ ‹_›).mono ?_;rintro e w1 ⟨rfl,hb6⟩;have khb6:=ab hb6)|(go_at_call 69;refine (q7.out _ ‹_›).mono ?_;rintro e w1 ⟨rfl,hb7⟩;have khb7:=ab hb7))
  go_ret
  exact ⟨ah (by first|(simp;done)|(simp;omega)|(simp;unfold wrap64;omega)),hBk.out _ ‹_›⟩
end Go.Proofs.YtbbdhknagofghaaGreat

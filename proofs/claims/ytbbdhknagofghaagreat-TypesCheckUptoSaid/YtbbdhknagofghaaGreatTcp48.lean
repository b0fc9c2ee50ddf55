import Derived.Test.YtbbdhknagofghaaGreatTcp47
set_option linter.all false
set_option maxHeartbeats 16000000
set_option maxRecDepth 100000
open Go.Proofs.Tryz
namespace Go.Proofs.YtbbdhknagofghaaGreat
open _root_.Nat renaming lt_of_lt_of_le→Bg, le_refl→Bm
open _root_.Go.Calls renaming regrown_of→Bh
open _root_.Go.RowKit.Below renaming refl→Bi
open _root_.Go.Sort renaming grow→Bl
open _root_.Bool renaming and_eq_true→Bn, true_and→Bt, false_and→Bu
open _root_.List renaming getElem?_eq_some_iff→Bp, all_eq_true→Bw, isEmpty_eq_false_iff→B9
open _root_.Int renaming toNat_natCast→BM
open Go.RowKit
theorem ww {p:Pg} {i j:Nat} {f:Hd} {g:Fd} (hi:p.headers[i]? =some f) (hj:f.fields[j]? =some g):aJ p (i:Int) g.1≤(j:Int):=by
 have h0:¬(i:Int)<0:=by omega
 simp only [aJ,if_neg h0,BM,hi,Option.elim]
 exact (ee (f:=Prod.fst) hj).2
theorem wA {p:Pg} {i j:Nat} {f:Ac} {g:Fd} (hi:p.actions[i]? =some f) (hj:f.params[j]? =some g):aL p (i:Int) g.1≤(j:Int):=by
 have h0:¬(i:Int)<0:=by omega
 simp only [aL,if_neg h0,BM,hi,Option.elim]
 exact (ee (f:=Prod.fst) hj).2
theorem qc (A1 A2 A3 A4 A5 A6 A7:Option Addr) (p:Pg) (c1 c2 c3 c4 c5 c6 c7:Nat) (B i:Nat) (j:Nat) (f:Hd) (g:Fd) (s0 s1 s2 s3 s4 s5 s6 s7 s8 s9 s10 s11 s12 s13:Value) (w:World) (hB:B≤w.heap.size) (hP:bu w B A1 A2 A3 A4 A5 A6 A7 p) (hi:p.headers[i]? =some f) (hj:f.fields[j]? =some g):
  Calls prog 110 #[.agg (aq p A1 A2 A3 A4 A5 A6 A7 c1 c2 c3 c4 c5 c6 c7),.agg #[.int .u8 2,.int .i64 (i:Int),.int .i64 (j:Int),s0,s1,s2,s3,s4,s5,s6,s7,s8,s9,s10,s11,s12,s13]] w fun r w'=>r=.returned (.int .i64 (cF (decide (aJ p (i:Int) g.1<(j:Int))) 8))∧Below w.heap.size w w':=by
 unfold aq
 obtain ⟨wa,hwa,hsa,wb,hwb,hsb,hw,hqz,hcb⟩:=ic w (aq p A1 A2 A3 A4 A5 A6 A7 c1 c2 c3 c4 c5 c6 c7) 30 #[.int .u8 2,.int .i64 (i:Int),.int .i64 (j:Int),s0,s1,s2,s3,s4,s5,s6,s7,s8,s9,s10,s11,s12,s13] 49
 obtain ⟨z0,z1,z2,z3,z4,z5,z6⟩:=aF (w:=wb) (a:=w.heap.size) fun i=>hqz i
 obtain ⟨y0,y1,y2,y3,y4,y5,y6,y7,y8,y9,y10,y11,y12,y13,y14,y15,y16⟩:=bv hcb
 have hl1:w.heap.size<wb.heap.size:=by omega
 have hl2:w.heap.size+1<wb.heap.size:=by omega
 have hz2:w.heap.size+2≤wb.heap.size:=by omega
 have hBb:B≤wb.heap.size:=by omega
 have hP2:=hP.below (hw.mono hB)
 have hb0:Below wb.heap.size wb wb:=Bi _ _
 have hwC:=aa hw
 replace hsb:=aa hsb
 clear hP hqz hcb
 have lst:=hP2.headers.len
 obtain ⟨b,o,ecs,hA,hb,hel,hcell,B1,d1,rfl,hn,hF⟩:=hP2.headers.2 i _ hi
 subst hA
 have x0:wb.cell? ⟨b,o+i*2,none⟩=some (.string f.name):=by simpa using hcell 0 _ rfl
 have x1:wb.cell? ⟨b,o+i*2+1,none⟩=some (.slice B1 f.fields.length d1):=hcell 1 _ rfl
 have hbw:b<wb.heap.size:=by omega
 have hiz:(i:Int)<(p.headers.length:Int):=by have:=(Bp.1 hi).1;omega
 have hlf:=hF.len
 obtain ⟨b',o',ecs',hA',hb',hel',hcell',rfl,hzq,hi6⟩:=hF.2 j _ hj
 subst hA'
 have n0:wb.cell? ⟨b',o'+j*2,none⟩=some (.string g.1):=by simpa using hcell' 0 _ rfl
 have n1:wb.cell? ⟨b',o'+j*2+1,none⟩=some (.int .i64 g.2):=hcell' 1 _ rfl
 have hbw':b'<wb.heap.size:=by omega
 have hjz:(j:Int)<(f.fields.length:Int):=by have:=(Bp.1 hj).1;omega
 have hg:=ax hb0 hb0.size
 have hX:∀ d os,Hid (Calls prog 116 #[.agg (aq p (some ⟨b,o,none⟩) A2 A3 A4 A5 A6 A7 c1 c2 c3 c4 c5 c6 c7),.int .i64 (i:Int),.string g.1] (Bl (redrawn wb d) os) _):=fun d os=>aa (dF _ (some ⟨b,o,none⟩) A2 A3 A4 A5 A6 A7 p c1 c2 c3 c4 c5 c6 c7 (i:Int) g.1 (hP2.grown hBb d os).1 (hP2.grown hBb d os).2)
 have hle:=(show aJ p (i:Int) g.1≤(j:Int) from ww hi hj)
 generalize aJ p (i:Int) g.1=zz at hX hle ⊢
 replace hP2:=aa hP2
 clear hb0 hcell hi hj hcell'
 by_cases hz:zz=(j:Int)
 ·subst hz
  go_enter func110,ntmps110
  go_wp2_with fail
  refine cD ?_
  repeat (any_goals (first|go_big_quiet_step (first|(go_at_call 116;with_reducible exact Bh (hX _ _).out))|quiet_step (first|(go_at_call 116;with_reducible exact Bh (hX _ _).out))))
  refine wpQuiet_nil ?_
  intro w1 hw1
  replace hw1:=ac hw1
  have hc1:=ab hw1
  go_wp2
  go_ret
  exact ⟨ag (by simp [cF]),hwC.out.trans (hw1.mono (by omega))⟩
 ·have hz1:zz<(j:Int):=by omega
  have hz2:¬(j:Int)=zz:=fun h=>hz h.symm
  clear hle
  go_enter func110,ntmps110
  go_wp2_with fail
  refine cD ?_
  repeat (any_goals (first|go_big_quiet_step (first|(go_at_call 116;with_reducible exact Bh (hX _ _).out))|quiet_step (first|(go_at_call 116;with_reducible exact Bh (hX _ _).out))))
  refine wpQuiet_nil ?_
  intro w1 hw1
  replace hw1:=ac hw1
  have hc1:=ab hw1
  go_wp2
  go_ret
  exact ⟨ag (by simp [cF,hz1]),hwC.out.trans (hw1.mono (by omega))⟩
theorem qd (A1 A2 A3 A4 A5 A6 A7:Option Addr) (p:Pg) (c1 c2 c3 c4 c5 c6 c7:Nat) (B i:Nat) (j:Nat) (f:Ac) (g:Fd) (s0 s1 s2 s3 s4 s5 s6 s7 s8 s9 s10 s11 s12 s13:Value) (w:World) (hB:B≤w.heap.size) (hP:bu w B A1 A2 A3 A4 A5 A6 A7 p) (hi:p.actions[i]? =some f) (hj:f.params[j]? =some g):
  Calls prog 110 #[.agg (aq p A1 A2 A3 A4 A5 A6 A7 c1 c2 c3 c4 c5 c6 c7),.agg #[.int .u8 9,.int .i64 (i:Int),.int .i64 (j:Int),s0,s1,s2,s3,s4,s5,s6,s7,s8,s9,s10,s11,s12,s13]] w fun r w'=>r=.returned (.int .i64 (cF (decide (aL p (i:Int) g.1<(j:Int))) 8))∧Below w.heap.size w w':=by
 unfold aq
 obtain ⟨wa,hwa,hsa,wb,hwb,hsb,hw,hqz,hcb⟩:=ic w (aq p A1 A2 A3 A4 A5 A6 A7 c1 c2 c3 c4 c5 c6 c7) 30 #[.int .u8 9,.int .i64 (i:Int),.int .i64 (j:Int),s0,s1,s2,s3,s4,s5,s6,s7,s8,s9,s10,s11,s12,s13] 49
 obtain ⟨z0,z1,z2,z3,z4,z5,z6⟩:=aF (w:=wb) (a:=w.heap.size) fun i=>hqz i
 obtain ⟨y0,y1,y2,y3,y4,y5,y6,y7,y8,y9,y10,y11,y12,y13,y14,y15,y16⟩:=bv hcb
 have hl1:w.heap.size<wb.heap.size:=by omega
 have hl2:w.heap.size+1<wb.heap.size:=by omega
 have hz2:w.heap.size+2≤wb.heap.size:=by omega
 have hBb:B≤wb.heap.size:=by omega
 have hP2:=hP.below (hw.mono hB)
 have hb0:Below wb.heap.size wb wb:=Bi _ _
 have hwC:=aa hw
 replace hsb:=aa hsb
 clear hP hqz hcb
 have lst:=hP2.actions.len
 obtain ⟨b,o,ecs,hA,hb,hel,hcell,B1,d1,B2,d2,rfl,hn,hF,hG⟩:=hP2.actions.2 i _ hi
 subst hA
 obtain ⟨x0,x1,x2⟩:=dl hcell
 have hbw:b<wb.heap.size:=by omega
 have hiz:(i:Int)<(p.actions.length:Int):=by have:=(Bp.1 hi).1;omega
 have hlf:=hF.len
 obtain ⟨b',o',ecs',hA',hb',hel',hcell',rfl,hzq,hi6⟩:=hF.2 j _ hj
 subst hA'
 have n0:wb.cell? ⟨b',o'+j*2,none⟩=some (.string g.1):=by simpa using hcell' 0 _ rfl
 have n1:wb.cell? ⟨b',o'+j*2+1,none⟩=some (.int .i64 g.2):=hcell' 1 _ rfl
 have hbw':b'<wb.heap.size:=by omega
 have hjz:(j:Int)<(f.params.length:Int):=by have:=(Bp.1 hj).1;omega
 have hg:=ax hb0 hb0.size
 have hX:∀ d os,Hid (Calls prog 175 #[.agg (aq p A1 A2 A3 (some ⟨b,o,none⟩) A5 A6 A7 c1 c2 c3 c4 c5 c6 c7),.int .i64 (i:Int),.string g.1] (Bl (redrawn wb d) os) _):=fun d os=>aa (gX _ A1 A2 A3 (some ⟨b,o,none⟩) A5 A6 A7 p c1 c2 c3 c4 c5 c6 c7 (i:Int) g.1 (hP2.grown hBb d os).1 (hP2.grown hBb d os).2)
 have hle:=(show aL p (i:Int) g.1≤(j:Int) from wA hi hj)
 generalize aL p (i:Int) g.1=zz at hX hle ⊢
 replace hP2:=aa hP2
 clear hb0 hcell hi hj hcell'
 by_cases hz:zz=(j:Int)
 ·subst hz
  go_enter func110,ntmps110
  go_wp2_with fail
  refine cD ?_
  repeat (any_goals (first|go_big_quiet_step (first|(go_at_call 175;with_reducible exact Bh (hX _ _).out))|quiet_step (first|(go_at_call 175;with_reducible exact Bh (hX _ _).out))))
  refine wpQuiet_nil ?_
  intro w1 hw1
  replace hw1:=ac hw1
  have hc1:=ab hw1
  go_wp2
  go_ret
  exact ⟨ag (by simp [cF]),hwC.out.trans (hw1.mono (by omega))⟩
 ·have hz1:zz<(j:Int):=by omega
  have hz2:¬(j:Int)=zz:=fun h=>hz h.symm
  clear hle
  go_enter func110,ntmps110
  go_wp2_with fail
  refine cD ?_
  repeat (any_goals (first|go_big_quiet_step (first|(go_at_call 175;with_reducible exact Bh (hX _ _).out))|quiet_step (first|(go_at_call 175;with_reducible exact Bh (hX _ _).out))))
  refine wpQuiet_nil ?_
  intro w1 hw1
  replace hw1:=ac hw1
  have hc1:=ab hw1
  go_wp2
  go_ret
  exact ⟨ag (by simp [cF,hz1]),hwC.out.trans (hw1.mono (by omega))⟩
theorem nU (A1 A2 A3 A4 A5 A6 A7:Option Addr) (p:Pg) (c1 c2 c3 c4 c5 c6 c7:Nat) (B i:Nat) (f:Hd) (s0 s1 s2 s3 s4 s5 s6 s7 s8 s9 s10 s11 s12 s13:Value) (w:World) (hB:B≤w.heap.size) (hP:bu w B A1 A2 A3 A4 A5 A6 A7 p) (hm:iJ f=true) (hi:p.headers[i]? =some f):
  Calls prog 110 #[.agg (aq p A1 A2 A3 A4 A5 A6 A7 c1 c2 c3 c4 c5 c6 c7),.agg #[.int .u8 1,.int .i64 (i:Int),.int .i64 0,s0,s1,s2,s3,s4,s5,s6,s7,s8,s9,s10,s11,s12,s13]] w fun r w'=>r=.returned (.int .i64 (aQ (cF (decide (ap p f.name<(i:Int))) 8) (cF (decide (dO f % 8≠0) ||decide (256<dO f)) 10)))∧Below w.heap.size w w':=by
 unfold aq
 obtain ⟨wa,hwa,hsa,wb,hwb,hsb,hw,hqz,hcb⟩:=ic w (aq p A1 A2 A3 A4 A5 A6 A7 c1 c2 c3 c4 c5 c6 c7) 30 #[.int .u8 1,.int .i64 (i:Int),.int .i64 0,s0,s1,s2,s3,s4,s5,s6,s7,s8,s9,s10,s11,s12,s13] 49
 obtain ⟨z0,z1,z2,z3,z4,z5,z6⟩:=aF (w:=wb) (a:=w.heap.size) fun i=>hqz i
 obtain ⟨y0,y1,y2,y3,y4,y5,y6,y7,y8,y9,y10,y11,y12,y13,y14,y15,y16⟩:=bv hcb
 have hl1:w.heap.size<wb.heap.size:=by omega
 have hl2:w.heap.size+1<wb.heap.size:=by omega
 have hz2:w.heap.size+2≤wb.heap.size:=by omega
 have hBb:B≤wb.heap.size:=by omega
 have hP2:=hP.below (hw.mono hB)
 have hb0:Below wb.heap.size wb wb:=Bi _ _
 have hwC:=aa hw
 replace hsb:=aa hsb
 clear hP hqz hcb
 have lst:=hP2.headers.len
 obtain ⟨b,o,ecs,hA,hb,hel,hcell,B1,d1,rfl,hn,hF⟩:=hP2.headers.2 i _ hi
 subst hA
 have x0:wb.cell? ⟨b,o+i*2,none⟩=some (.string f.name):=by simpa using hcell 0 _ rfl
 have x1:wb.cell? ⟨b,o+i*2+1,none⟩=some (.slice B1 f.fields.length d1):=hcell 1 _ rfl
 have hbw:b<wb.heap.size:=by omega
 have hiz:(i:Int)<(p.headers.length:Int):=by have:=(Bp.1 hi).1;omega
 have hBt:=aa (fun (W:World) (hb:Below wb.heap.size wb W)=>(tv f B1 d1 W (B:=B) (by have:=hb.size;omega) (hF.below bA (hb.mono hBb)) hm).mono (fun e w' h=>(⟨h.1,hb.trans (h.2.mono hb.size)⟩:e=_∧Below wb.heap.size wb w')))
 have hb2:=aa (show 0≤dO f∧dO f≤2048 from by
  simp only [iJ,Bn,decide_eq_true_eq] at hm
  have:=gM (l:=f.fields) fun x hx=>by
   have:=Bw.1 hm.2 x hx
   simp only [gB,cE,Bn,decide_eq_true_eq] at this
   exact this.2
  have e:dO f=dn f.fields:=rfl
  rw [e];omega)
 have hlf:=hF.len
 have hg:=ax hb0 hb0.size
 have hX:∀ d os,Hid (Calls prog 115 #[.agg (aq p (some ⟨b,o,none⟩) A2 A3 A4 A5 A6 A7 c1 c2 c3 c4 c5 c6 c7),.string f.name] (Bl (redrawn wb d) os) _):=fun d os=>aa (cC _ (some ⟨b,o,none⟩) A2 A3 A4 A5 A6 A7 p c1 c2 c3 c4 c5 c6 c7 f.name (hP2.grown hBb d os).1 (hP2.grown hBb d os).2)
 have hle:=(show ap p f.name≤(i:Int) from (ee (f:=Hd.name) hi).2)
 generalize ap p f.name=zz at hX hle ⊢
 generalize dO f=n at hBt hb2 ⊢
 obtain ⟨n0,n1⟩:=hb2.out
 replace hP2:=aa hP2
 have hBk:=aa (show ∀ W,Below wb.heap.size wb W→Below w.heap.size w W from fun W hb=>hwC.out.trans (hb.mono (by omega)))
 clear hb0 hcell hi hm hF hb2
 by_cases hz:zz=(i:Int)
 ·subst hz
  have hm8:n.tmod 8=n % 8:=Int.tmod_eq_emod_of_nonneg n0
  generalize hmm:n % 8=m at hm8
  by_cases h8:m=0
  ·have hmm':=aa hmm
   clear hmm
   subst h8
   by_cases h256:256<n
   ·go_enter func110,ntmps110
    go_wp2_with fail
    refine cD ?_
    repeat (any_goals (first|go_big_quiet_step (first|(go_at_call 115;with_reducible exact Bh (hX _ _).out))|quiet_step (first|(go_at_call 115;with_reducible exact Bh (hX _ _).out))))
    refine wpQuiet_nil ?_
    intro w1 hw1
    replace hw1:=ac hw1
    have hc1:=ab hw1
    have zc1:=Bg hl1 hw1.size
    have zc2:=Bg hl2 hw1.size
    go_wp2_with (go_at_call 178;refine (hBt.out _ ‹_›).mono ?_;rintro e w2 ⟨rfl,hw2⟩;have hc2:=ab hw2;have ze1:=Bg hl1 hw2.size;have ze2:=Bg hl2 hw2.size)
    go_ret
    exact ⟨ag (by simp [cF,aQ,h256]),hBk.out _ ‹_›⟩
   ·have hn256:n≤256:=by omega
    go_enter func110,ntmps110
    go_wp2_with fail
    refine cD ?_
    repeat (any_goals (first|go_big_quiet_step (first|(go_at_call 115;with_reducible exact Bh (hX _ _).out))|quiet_step (first|(go_at_call 115;with_reducible exact Bh (hX _ _).out))))
    refine wpQuiet_nil ?_
    intro w1 hw1
    replace hw1:=ac hw1
    have hc1:=ab hw1
    have zc1:=Bg hl1 hw1.size
    have zc2:=Bg hl2 hw1.size
    go_wp2_with (go_at_call 178;refine (hBt.out _ ‹_›).mono ?_;rintro e w2 ⟨rfl,hw2⟩;have hc2:=ab hw2;have ze1:=Bg hl1 hw2.size;have ze2:=Bg hl2 hw2.size)
    go_ret
    exact ⟨ag (by simp [cF,aQ,h256,hmm'.out]),hBk.out _ ‹_›⟩
  ·have hmm':=aa hmm
   clear hmm
   go_enter func110,ntmps110
   go_wp2_with fail
   refine cD ?_
   repeat (any_goals (first|go_big_quiet_step (first|(go_at_call 115;with_reducible exact Bh (hX _ _).out))|quiet_step (first|(go_at_call 115;with_reducible exact Bh (hX _ _).out))))
   refine wpQuiet_nil ?_
   intro w1 hw1
   replace hw1:=ac hw1
   have hc1:=ab hw1
   have zc1:=Bg hl1 hw1.size
   have zc2:=Bg hl2 hw1.size
   go_wp2_with (go_at_call 178;refine (hBt.out _ ‹_›).mono ?_;rintro e w2 ⟨rfl,hw2⟩;have hc2:=ab hw2;have ze1:=Bg hl1 hw2.size;have ze2:=Bg hl2 hw2.size)
   go_ret
   exact ⟨ag (by simp [cF,aQ,hmm'.out,h8]),hBk.out _ ‹_›⟩
 ·have hz1:zz<(i:Int):=by omega
  have hz2:¬(i:Int)=zz:=fun h=>hz h.symm
  clear hle
  go_enter func110,ntmps110
  go_wp2_with fail
  refine cD ?_
  repeat (any_goals (first|go_big_quiet_step (first|(go_at_call 115;with_reducible exact Bh (hX _ _).out))|quiet_step (first|(go_at_call 115;with_reducible exact Bh (hX _ _).out))))
  refine wpQuiet_nil ?_
  intro w1 hw1
  replace hw1:=ac hw1
  have hc1:=ab hw1
  go_wp2
  go_ret
  exact ⟨ag (by simp [cF,aQ,hz1]),hBk.out _ hw1⟩
theorem dv (A1 A2 A3 A4 A5 A6 A7:Option Addr) (p:Pg) (c1 c2 c3 c4 c5 c6 c7:Nat) (B:Nat) (k:Int) (hk:¬k=5∧¬k=6∧¬k=7∧¬k=12∧¬k=10∧¬k=13∧¬k=14∧¬k=15) (a b:Int) (z:Int) (s0 s1 s2 s3 s4 s5 s6 s7 s8 s9 s10 s11 s12 s13:Value) (w:World) (hB:B≤w.heap.size)
  (hX0:∀ W,B≤W.heap.size→Below w.heap.size w W→Calls prog 110 #[.agg (aq p A1 A2 A3 A4 A5 A6 A7 c1 c2 c3 c4 c5 c6 c7),.agg #[.int .u8 k,.int .i64 a,.int .i64 b,s0,s1,s2,s3,s4,s5,s6,s7,s8,s9,s10,s11,s12,s13]] W fun r W'=>r=.returned (.int .i64 z)∧Below W.heap.size W W'):
  Calls prog 40 #[.agg (aq p A1 A2 A3 A4 A5 A6 A7 c1 c2 c3 c4 c5 c6 c7),.agg #[.int .u8 k,.int .i64 a,.int .i64 b,s0,s1,s2,s3,s4,s5,s6,s7,s8,s9,s10,s11,s12,s13]] w fun r w'=>r=.returned (.int .i64 (z))∧Below w.heap.size w w':=by
 unfold aq
 obtain ⟨wa,hwa,hsa,wb,hwb,hsb,hw,hqz,hcb⟩:=ic w (aq p A1 A2 A3 A4 A5 A6 A7 c1 c2 c3 c4 c5 c6 c7) 30 #[.int .u8 k,.int .i64 a,.int .i64 b,s0,s1,s2,s3,s4,s5,s6,s7,s8,s9,s10,s11,s12,s13] 49
 obtain ⟨z0,z1,z2,z3,z4,z5,z6⟩:=aF (w:=wb) (a:=w.heap.size) fun i=>hqz i
 obtain ⟨y0,y1,y2,y3,y4,y5,y6,y7,y8,y9,y10,y11,y12,y13,y14,y15,y16⟩:=bv hcb
 have hl1:w.heap.size<wb.heap.size:=by omega
 have hl2:w.heap.size+1<wb.heap.size:=by omega
 have hz2:w.heap.size+2≤wb.heap.size:=by omega
 have hBb:B≤wb.heap.size:=by omega
 have hb0:Below wb.heap.size wb wb:=Bi _ _
 have hwC:=aa hw
 replace hsb:=aa hsb
 clear hqz hcb
 have hX:=aa (hX0 wb hBb (hwC.out))
 clear hX0 hb0
 obtain ⟨n5,n6,n7,n12,n10,n13,n14,n15⟩:=hk
 go_enter func40,ntmps40
 go_wp2_with (go_at_call 110;refine hX.out.mono ?_;rintro e w1 ⟨rfl,hw1⟩)
 go_ret
 exact ⟨rfl,hwC.out.trans (hw1.mono (by omega))⟩
def hU (p:Pg) (act:Int):St→Bool
 | .mk kind head name e _ _=>
  if kind=3 then decide (0≤eE p name)
  else if kind=6∨kind=7 then decide (0≤ap p head)
  else if kind=4 then true
  else if kind=1 then (if head=aB then decide (0≤ct p name) else decide (0≤aJ p (ap p head) name))&&aU p act e
  else aU p act e
theorem nq {n:Int}:decide (n<0)= !decide (0≤n):=by
 by_cases h:0≤n
 ·rw [decide_eq_true h,decide_eq_false (by omega)];rfl
 ·rw [decide_eq_false h,decide_eq_true (by omega)];rfl
theorem yk (p:Pg) (act:Int) (kind:Int) (head name:ByteArray) (e:Ex) (thn els:List St):
  eO p act (.mk kind head name e thn els)=if kind=3∧0≤act then 9 else cF (!hU p act (.mk kind head name e thn els)) 7:=by
 by_cases h3:kind=3
 ·subst h3
  by_cases ha:0≤act
  ·simp [eO,aQ,cF,ha]
  ·simp [eO,hU,aQ,cF,ha,nq]
 ·by_cases h67:kind=6∨kind=7
  ·simp [eO,hU,h3,h67,nq]
  ·by_cases h4:kind=4
   ·simp [eO,hU,h4,cF]
   ·by_cases h1:kind=1
    ·subst h1
     by_cases hh:head=aB
     ·cases hd:decide (0≤ct p name)<;>simp [eO,hU,hh,nq,hd,aQ,cF,cZ]
     ·cases hd:decide (0≤aJ p (ap p head) name)<;>simp [eO,hU,hh,nq,hd,aQ,cF,cZ]
    ·simp [eO,hU,h3,h67,h4,h1,cZ]
theorem tR (A1 A2 A3 A4 A5 A6 A7:Option Addr) (p:Pg) (c1 c2 c3 c4 c5 c6 c7:Nat) (act:Int) (B:Nat) (s:St) (cs:List Value) (w:World) (hB:B≤w.heap.size) (hP:bu w B A1 A2 A3 A4 A5 A6 A7 p) (h:dR w B cs s):
  Calls prog 108 #[.agg (aq p A1 A2 A3 A4 A5 A6 A7 c1 c2 c3 c4 c5 c6 c7),.int .i64 act,.agg cs.toArray] w fun r w'=>r=.returned (.bool (hU p act s))∧Below w.heap.size w w':=by
 unfold aq
 obtain ⟨kind,head,name,e,thn,els⟩:=s
 obtain ⟨es,A,cap,A',cap',rfl,-,-,-,he,hT,hE⟩:=RS.inv h
 have l1:=hT.len
 have l2:=hE.len
 obtain ⟨op,lit,ehead,ename,hi,lo,args⟩:=e
 have he':=he
 obtain ⟨Ae,ecap,rfl,-,-,-,-,-,-,hs⟩:=RE.inv he'
 have l3:=hs.len
 show Calls _ _ #[.agg #[.slice A1 p.headers.length c1,.slice A2 p.metas.length c2,.slice A3 p.states.length c3,.slice A4 p.actions.length c4,.slice A5 p.tables.length c5,.slice A6 p.control.length c6,.slice A7 p.emit.length c7],.int .i64 act,.agg #[.int .u8 kind,.string head,.string name,.int .u8 op,.int .i64 lit.1,.int .u64 lit.2.1,.int .u64 lit.2.2,.string ehead,.string ename,.int .i64 hi,.int .i64 lo,.slice Ae args.length ecap,.slice A thn.length cap,.slice A' els.length cap']] _ _
 obtain ⟨wa,hwa,hsa,hba,hca,-⟩:=al w (aq p A1 A2 A3 A4 A5 A6 A7 c1 c2 c3 c4 c5 c6 c7) 30
 obtain ⟨wb,hwb,hsb,hbb,hcb,-⟩:=al wa (nA kind head name op lit ehead ename hi lo Ae args.length ecap A thn.length cap A' els.length cap') 47
 have hw:=hba.trans (hbb.mono (by omega))
 have q:∀ i,wb.cell? ⟨w.heap.size,i,none⟩=wa.cell? ⟨w.heap.size,i,none⟩:=fun i=>hbb.cell (p:=⟨w.heap.size,i,none⟩) (by show w.heap.size<_;omega)
 obtain ⟨z0,z1,z2,z3,z4,z5,z6⟩:=aF (w:=wb) (a:=w.heap.size) fun i=>(q _).trans<|hca i
 simp only [hsa] at hcb
 have y0:wb.cell? ⟨w.heap.size+1,0,none⟩=some (.int .u8 kind):=hcb 0
 have y1:wb.cell? ⟨w.heap.size+1,1,none⟩=some (.string head):=hcb 1
 have y2:wb.cell? ⟨w.heap.size+1,2,none⟩=some (.string name):=hcb 2
 have y3:wb.cell? ⟨w.heap.size+1,3,none⟩=some (.int .u8 op):=hcb 3
 have y4:wb.cell? ⟨w.heap.size+1,4,none⟩=some (.int .i64 lit.1):=hcb 4
 have y5:wb.cell? ⟨w.heap.size+1,5,none⟩=some (.int .u64 lit.2.1):=hcb 5
 have y6:wb.cell? ⟨w.heap.size+1,6,none⟩=some (.int .u64 lit.2.2):=hcb 6
 have y7:wb.cell? ⟨w.heap.size+1,7,none⟩=some (.string ehead):=hcb 7
 have y8:wb.cell? ⟨w.heap.size+1,8,none⟩=some (.string ename):=hcb 8
 have y9:wb.cell? ⟨w.heap.size+1,9,none⟩=some (.int .i64 hi):=hcb 9
 have y10:wb.cell? ⟨w.heap.size+1,10,none⟩=some (.int .i64 lo):=hcb 10
 have y11:wb.cell? ⟨w.heap.size+1,11,none⟩=some (.slice Ae args.length ecap):=hcb 11
 have hl1:w.heap.size<wb.heap.size:=by omega
 have hl2:w.heap.size+1<wb.heap.size:=by omega
 have hz2:w.heap.size+2≤wb.heap.size:=by omega
 have hBb:B≤wb.heap.size:=by omega
 have hP2:=aa (hP.below (hw.mono hB))
 have hE2:=aa (ai.keep he fun q hq=>(hw.mono hB).cell hq)
 obtain ⟨r,hr⟩:∃ r,hU p act (.mk kind head name (.mk op lit ehead ename hi lo args) thn els)=r:=⟨_,rfl⟩
 have hv:=aa hr
 simp only [hU] at hv
 replace hr:=aa hr
 have hN:∀ W,B≤W.heap.size→Below wb.heap.size wb W→Calls prog 107 #[.agg (aq p A1 A2 A3 A4 A5 A6 A7 c1 c2 c3 c4 c5 c6 c7),.int .i64 act,.agg (aO op lit ehead ename hi lo Ae args.length ecap)] W _:=
  fun W h1 h2=>gY A1 A2 A3 A4 A5 A6 A7 p c1 c2 c3 c4 c5 c6 c7 act B (.mk op lit ehead ename hi lo args) _ W h1 (hP2.out.below (h2.mono hBb)) (ai.keep hE2.out fun q hq=>(h2.mono hBb).cell hq)
 generalize aU p act (.mk op lit ehead ename hi lo args)=nm at hv hN
 replace hN:=aa hN
 replace hw:=aa hw
 have hb0:Below wb.heap.size wb wb:=Bi _ _
 have hg:=ax hb0 (Bm _)
 clear hca hcb hs hP q hba hbb h he he' hT hE
 replace hsb:=aa hsb
 by_cases h3:kind=3
 focus
  subst h3
  simp only [if_true] at hv
  have hT:=aa (ly wb A1 A2 A3 A4 A5 A6 A7 p c1 c2 c3 c4 c5 c6 c7 name hBb hP2.out)
  generalize eE p name=z at hv hT
  clear hg hb0
  go_enter func108,ntmps108
  go_wp2_with (go_at_call 176;refine hT.out.mono ?_;rintro e w1 ⟨rfl,hw1⟩)
  go_ret
  exact ⟨ah (hv.out.trans hr.out.symm),hw.out.trans (hw1.mono (by omega))⟩
 rotate_right
 focus
  by_cases h67:kind=6∨kind=7
  focus
   simp only [if_neg h3,if_pos h67] at hv
   have hH:=cC wb A1 A2 A3 A4 A5 A6 A7 p c1 c2 c3 c4 c5 c6 c7 head hBb hP2.out
   generalize ap p head=z at hv hH
   replace hH:=aa hH
   clear hg hb0 h3
   go_enter func108,ntmps108
   rcases h67 with rfl|rfl
   all_goals
    go_wp2_with (go_at_call 115;refine hH.out.mono ?_;rintro e w1 ⟨rfl,hw1⟩)
    go_ret
    exact ⟨ah (hv.out.trans hr.out.symm),hw.out.trans (hw1.mono (by omega))⟩
  rotate_right
  focus
   by_cases h4:kind=4
   focus
    simp only [if_neg h3,if_neg h67,if_pos h4] at hv
    subst h4
    clear hg hb0 h3 h67
    go_enter func108,ntmps108
    go_wp2
    go_ret
    exact ⟨ah (hv.out.trans hr.out.symm),hw.out⟩
   rotate_right
   focus
    by_cases h1:kind=1
    focus
     simp only [if_neg h3,if_neg h67,if_neg h4,if_pos h1] at hv
     subst h1
     clear h3 h67 h4
     have hM:∀ d os,Hid (Calls prog 114 #[.agg (aq p A1 A2 A3 A4 A5 A6 A7 c1 c2 c3 c4 c5 c6 c7),.string name] (Bl (redrawn wb d) os) _):=fun d os=>aa (eW _ A1 A2 A3 A4 A5 A6 A7 p c1 c2 c3 c4 c5 c6 c7 name (hP2.out.grown hBb d os).1 (hP2.out.grown hBb d os).2)
     have hH:∀ d os,Hid (Calls prog 115 #[.agg (aq p A1 A2 A3 A4 A5 A6 A7 c1 c2 c3 c4 c5 c6 c7),.string head] (Bl (redrawn wb d) os) _):=fun d os=>aa (cC _ A1 A2 A3 A4 A5 A6 A7 p c1 c2 c3 c4 c5 c6 c7 head (hP2.out.grown hBb d os).1 (hP2.out.grown hBb d os).2)
     have hF:∀ d os,Hid (Calls prog 116 #[.agg (aq p A1 A2 A3 A4 A5 A6 A7 c1 c2 c3 c4 c5 c6 c7),.int .i64 (ap p head),.string name] (Bl (redrawn wb d) os) _):=fun d os=>aa (dF _ A1 A2 A3 A4 A5 A6 A7 p c1 c2 c3 c4 c5 c6 c7 (ap p head) name (hP2.out.grown hBb d os).1 (hP2.out.grown hBb d os).2)
     generalize ct p name=zm at hv hM
     generalize aJ p (ap p head) name=zf at hv hF
     generalize ap p head=zh at hH hF
     go_enter func108,ntmps108
     by_cases hh:head=aB
     focus
      have q1:(head.toList== [])=true:=by rw [ak.1 hh];rfl
      have q2:head.toList.isEmpty=true:=by rw [ak.1 hh];rfl
      have q3:head.toList= []:=ak.1 hh
      simp only [if_pos hh] at hv
      clear hh
      by_cases hd:zm<0
      focus
       rw [decide_eq_false (by omega),Bu] at hv
       go_wp2_with fail
       refine cD ?_
       repeat (any_goals (first|go_big_quiet_step (first|(go_at_call 114;with_reducible exact Bh (hM _ _).out)|(go_at_call 115;with_reducible exact Bh (hH _ _).out)|(go_at_call 116;with_reducible exact Bh (hF _ _).out))|quiet_step (first|(go_at_call 114;with_reducible exact Bh (hM _ _).out)|(go_at_call 115;with_reducible exact Bh (hH _ _).out)|(go_at_call 116;with_reducible exact Bh (hF _ _).out))))
       refine wpQuiet_nil ?_
       intro w1 hw1
       replace hw1:=ac hw1
       go_wp2
       go_ret
       exact ⟨ah (hv.out.trans hr.out.symm),hw.out.trans (hw1.mono (by omega))⟩
     rotate_right
     focus
      have q1:(head.toList== [])=false:=by rw [beq_eq_false_iff_ne];exact fun h=>hh (ak.2 h)
      have q2:head.toList.isEmpty=false:=by rw [B9];exact fun h=>hh (ak.2 h)
      have q3:¬head.toList= []:=fun h=>hh (ak.2 h)
      simp only [if_neg hh] at hv
      clear hh
      by_cases hd:zf<0
      focus
       rw [decide_eq_false (by omega),Bu] at hv
       go_wp2_with fail
       refine cD ?_
       repeat (any_goals (first|go_big_quiet_step (first|(go_at_call 114;with_reducible exact Bh (hM _ _).out)|(go_at_call 115;with_reducible exact Bh (hH _ _).out)|(go_at_call 116;with_reducible exact Bh (hF _ _).out))|quiet_step (first|(go_at_call 114;with_reducible exact Bh (hM _ _).out)|(go_at_call 115;with_reducible exact Bh (hH _ _).out)|(go_at_call 116;with_reducible exact Bh (hF _ _).out))))
       refine wpQuiet_nil ?_
       intro w1 hw1
       replace hw1:=ac hw1
       go_wp2
       go_ret
       exact ⟨ah (hv.out.trans hr.out.symm),hw.out.trans (hw1.mono (by omega))⟩
    rotate_right
    focus
     simp only [if_neg h3,if_neg h67,if_neg h4,if_neg h1] at hv
     have hX:=aa (hN.out wb hBb hb0)
     have n6:¬kind=6:=fun h=>h67 (.inl h)
     have n7:¬kind=7:=fun h=>h67 (.inr h)
     clear hg hb0 h67
     go_enter func108,ntmps108
     go_wp2_with (go_at_call 107;refine hX.out.mono ?_;rintro e w1 ⟨rfl,hw1⟩)
     go_ret
     exact ⟨ah (hv.out.trans hr.out.symm),hw.out.trans (hw1.mono (by omega))⟩
 all_goals
  rw [decide_eq_true (by omega),Bt] at hv
  go_wp2_with fail
  refine cD ?_
  repeat (any_goals (first|go_big_quiet_step (first|(go_at_call 114;with_reducible exact Bh (hM _ _).out)|(go_at_call 115;with_reducible exact Bh (hH _ _).out)|(go_at_call 116;with_reducible exact Bh (hF _ _).out))|quiet_step (first|(go_at_call 114;with_reducible exact Bh (hM _ _).out)|(go_at_call 115;with_reducible exact Bh (hH _ _).out)|(go_at_call 116;with_reducible exact Bh (hF _ _).out))))
  refine wpQuiet_nil ?_
  intro w1 hw1
  replace hw1:=ac hw1
  have hc1:=ab hw1
  have zz1:=Bg hl1 hw1.size
  have zz2:=Bg hl2 hw1.size
  have hn1:=aa (hN.out w1 (by have:=hw1.size;omega) hw1)
  replace hw1:=aa hw1
  clear hg
  go_wp2_with (go_at_call 107;refine hn1.out.mono ?_;rintro e w2 ⟨rfl,hw2⟩)
  go_ret
  exact ⟨ah (hv.out.trans hr.out.symm),(hw.out.trans (hw1.out.mono (by omega))).trans (hw2.mono (by have:=hw1.out.size;omega))⟩
end Go.Proofs.YtbbdhknagofghaaGreat

import Derived.Test.YtbbdhknagofghaaGreatTcp46
import Derived.Test.YtbbdhknagofghaaGreatTcp48
set_option linter.all false
set_option maxHeartbeats 8000000
set_option maxRecDepth 100000
open Go.Proofs.Tryz
namespace Go.Proofs.YtbbdhknagofghaaGreat
open _root_.Go.Calls renaming regrown_of→Bh
open _root_.Go.RowKit.Below renaming refl→Bi
open _root_.Nat renaming le_trans→Bj, zero_le→Bo
open _root_.List renaming getElem?_eq_getElem→Bk, getElem?_eq_some_iff→Bp, getElem_mem→Bv, all_eq_true→Bw, mem_of_getElem?→BQ
open _root_.Go.Sort renaming grow→Bl
open _root_.Bool renaming and_eq_true→Bn
open Go.RowKit
theorem tS (A1 A2 A3 A4 A5 A6 A7:Option Addr) (p:Pg) (c1 c2 c3 c4 c5 c6 c7:Nat) (B:Nat) (act:Int) (st:St) (s0 s1 s2 s3 s4 s5 s6 s7 s8 s9 s10 s11 s12 s13:Value) (w:World) (hB:B≤w.heap.size) (hP:bu w B A1 A2 A3 A4 A5 A6 A7 p) (hst:dR w B [s0,s1,s2,s3,s4,s5,s6,s7,s8,s9,s10,s11,s12,s13] st):
  Calls prog 40 #[.agg (aq p A1 A2 A3 A4 A5 A6 A7 c1 c2 c3 c4 c5 c6 c7),.agg #[.int .u8 10,.int .i64 act,.int .i64 0,s0,s1,s2,s3,s4,s5,s6,s7,s8,s9,s10,s11,s12,s13]] w fun r w'=>r=.returned (.int .i64 (eO p act st))∧Below w.heap.size w w':=by
 unfold aq
 obtain ⟨kind,head,name,e,thn,els⟩:=st
 have hs0:s0=.int .u8 kind:=by
  obtain ⟨es,A,cap,A',cap',he,-⟩:=RS.inv hst
  have:=congrArg List.head? he
  simpa [yu] using this
 subst hs0
 obtain ⟨wa,hwa,hsa,hba,hca,-⟩:=al w (aq p A1 A2 A3 A4 A5 A6 A7 c1 c2 c3 c4 c5 c6 c7) 30
 obtain ⟨wb,hwb,hsb,hbb,hcb,-⟩:=al wa #[.int .u8 10,.int .i64 act,.int .i64 0,.int .u8 kind,s1,s2,s3,s4,s5,s6,s7,s8,s9,s10,s11,s12,s13] 49
 have hw:=hba.trans (hbb.mono (by omega))
 have q:∀ i,wb.cell? ⟨w.heap.size,i,none⟩=wa.cell? ⟨w.heap.size,i,none⟩:=fun i=>hbb.cell (p:=⟨w.heap.size,i,none⟩) (by show w.heap.size<_;omega)
 have hqz:=fun i=>(q i).trans (hca i)
 obtain ⟨z0,z1,z2,z3,z4,z5,z6⟩:=aF (w:=wb) (a:=w.heap.size) fun i=>hqz i
 simp only [hsa] at hcb
 obtain ⟨y0,y1,y2,y3,y4,y5,y6,y7,y8,y9,y10,y11,y12,y13,y14,y15,y16⟩:=bv hcb
 have hl1:w.heap.size<wb.heap.size:=by omega
 have hl2:w.heap.size+1<wb.heap.size:=by omega
 have hz2:w.heap.size+2≤wb.heap.size:=by omega
 have hBb:B≤wb.heap.size:=by omega
 have hP2:=hP.below (hw.mono hB)
 have hb0:Below wb.heap.size wb wb:=Bi _ _
 have hwC:=aa hw
 replace hsb:=aa hsb
 clear hP hqz q hbb hba hca hcb
 have hX:=aa (tR A1 A2 A3 A4 A5 A6 A7 p c1 c2 c3 c4 c5 c6 c7 act B (.mk kind head name e thn els) [.int .u8 kind,s1,s2,s3,s4,s5,s6,s7,s8,s9,s10,s11,s12,s13] wb hBb hP2 (be.keep hst fun q hq=>(hwC.out.mono hB).cell hq))
 have hv:=aa (yk p act kind head name e thn els)
 replace hP2:=aa hP2
 generalize hU p act (.mk kind head name e thn els)=z at hX hv
 clear hb0 hst
 by_cases h3:kind=3
 ·by_cases ha:0≤act
  ·replace hv:=aa (hv.out.trans (if_pos ⟨h3,ha⟩))
   subst h3
   go_enter func40,ntmps40
   go_wp2
   go_ret
   exact ⟨ag hv.out.symm,hwC.out⟩
  ·replace hv:=aa (hv.out.trans (if_neg fun h=>ha h.2))
   subst h3
   cases z<;>(
    go_enter func40,ntmps40
    go_wp2_with (go_at_call 108;refine hX.out.mono ?_;rintro e w1 ⟨rfl,hw1⟩)
    go_ret
    exact ⟨ag hv.out.symm,hwC.out.trans (hw1.mono (by omega))⟩)
 ·replace hv:=aa (hv.out.trans (if_neg fun h=>h3 h.1))
  cases z<;>(
   go_enter func40,ntmps40
   go_wp2_with (go_at_call 108;refine hX.out.mono ?_;rintro e w1 ⟨rfl,hw1⟩)
   go_ret
   exact ⟨ag hv.out.symm,hwC.out.trans (hw1.mono (by omega))⟩)
theorem wB (A1 A2 A3 A4 A5 A6 A7:Option Addr) (p:Pg) (c1 c2 c3 c4 c5 c6 c7:Nat) (B i:Nat) (j:Nat) (f:Ta) (g:Ky) (s0 s1 s2 s3 s4 s5 s6 s7 s8 s9 s10 s11 s12 s13:Value) (w:World) (hB:B≤w.heap.size) (hP:bu w B A1 A2 A3 A4 A5 A6 A7 p) (hi:p.tables[i]? =some f) (hj:f.keys[j]? =some g):
  Calls prog 40 #[.agg (aq p A1 A2 A3 A4 A5 A6 A7 c1 c2 c3 c4 c5 c6 c7),.agg #[.int .u8 12,.int .i64 (i:Int),.int .i64 (j:Int),s0,s1,s2,s3,s4,s5,s6,s7,s8,s9,s10,s11,s12,s13]] w fun r w'=>r=.returned (.int .i64 (cZ p (-1) g.e))∧Below w.heap.size w w':=by
 unfold aq
 obtain ⟨wa,hwa,hsa,hba,hca,-⟩:=al w (aq p A1 A2 A3 A4 A5 A6 A7 c1 c2 c3 c4 c5 c6 c7) 30
 obtain ⟨wb,hwb,hsb,hbb,hcb,-⟩:=al wa #[.int .u8 12,.int .i64 (i:Int),.int .i64 (j:Int),s0,s1,s2,s3,s4,s5,s6,s7,s8,s9,s10,s11,s12,s13] 49
 have hw:=hba.trans (hbb.mono (by omega))
 have q:∀ i,wb.cell? ⟨w.heap.size,i,none⟩=wa.cell? ⟨w.heap.size,i,none⟩:=fun i=>hbb.cell (p:=⟨w.heap.size,i,none⟩) (by show w.heap.size<_;omega)
 have hqz:=fun i=>(q i).trans (hca i)
 obtain ⟨z0,z1,z2,z3,z4,z5,z6⟩:=aF (w:=wb) (a:=w.heap.size) fun i=>hqz i
 simp only [hsa] at hcb
 obtain ⟨y0,y1,y2,y3,y4,y5,y6,y7,y8,y9,y10,y11,y12,y13,y14,y15,y16⟩:=bv hcb
 have hl1:w.heap.size<wb.heap.size:=by omega
 have hl2:w.heap.size+1<wb.heap.size:=by omega
 have hz2:w.heap.size+2≤wb.heap.size:=by omega
 have hBb:B≤wb.heap.size:=by omega
 have hP2:=hP.below (hw.mono hB)
 have hb0:Below wb.heap.size wb wb:=Bi _ _
 have hwC:=aa hw
 replace hsb:=aa hsb
 clear hP hqz q hbb hba hca hcb
 have lst:=hP2.tables.len
 obtain ⟨b,o,ecs,hA,hb,hel,hcell,B1,d1,B2,d2,B3,d3,rfl,hn,hd,hF,hG,hH⟩:=hP2.tables.2 i _ hi
 subst hA
 obtain ⟨x0,x1,x2,x3,x4⟩:=cN hcell
 have hbw:b<wb.heap.size:=by omega
 have hiz:(i:Int)<(p.tables.length:Int):=by have:=(Bp.1 hi).1;omega
 have hlf:=hF.len
 obtain ⟨b',o',ecs',hA',hb',hel',hcell',es,rfl,hz,he⟩:=hF.2 j _ hj
 subst hA'
 have hN:∀ d os,Hid (Calls prog 107 #[.agg (aq p A1 A2 A3 A4 (some ⟨b,o,none⟩) A6 A7 c1 c2 c3 c4 c5 c6 c7),.int .i64 (-1),.agg es.toArray] (Bl (redrawn wb d) os) _):=fun d os=>aa (gY A1 A2 A3 A4 (some ⟨b,o,none⟩) A6 A7 p c1 c2 c3 c4 c5 c6 c7 (-1) B g.e es _ (hP2.grown hBb d os).1 (hP2.grown hBb d os).2 (ai.keep he fun q hq=>((below_regrown wb d os).mono hBb).cell hq))
 obtain ⟨ge,gk⟩:=g
 obtain ⟨op,lit,head,name,hi0,lo,args⟩:=ge
 obtain ⟨Ae,ecap,rfl,-,-,-,-,-,-,hs⟩:=RE.inv he
 have le:=hs.len
 obtain ⟨n0,n1,n2,n3,n4,n5,n6,n7,n8,n9⟩:=jU hcell'
 have hbw':b'<wb.heap.size:=by omega
 have hjz:(j:Int)<(f.keys.length:Int):=by have:=(Bp.1 hj).1;omega
 replace hN:∀ d os,Hid (Calls prog 107 #[.agg (aq p A1 A2 A3 A4 (some ⟨b,o,none⟩) A6 A7 c1 c2 c3 c4 c5 c6 c7),.int .i64 (-1),.agg (aO op lit head name hi0 lo Ae args.length ecap)] (Bl (redrawn wb d) os) _):=hN
 have hg:=ax hb0 hb0.size
 show Calls _ _ _ _ fun r w'=>r=.returned (.int .i64 (cF (!aU p (-1) (.mk op lit head name hi0 lo args)) 7))∧_
 change ∀ d os,Hid (Calls _ _ _ _ fun r w'=>r=.returned (.bool (aU p (-1) (.mk op lit head name hi0 lo args)))∧_) at hN
 generalize aU p (-1) (.mk op lit head name hi0 lo args)=zz at hN ⊢
 replace hP2:=aa hP2
 clear hb0 hcell hcell' hi hj he hs
 cases zz<;>(
  go_enter func40,ntmps40
  go_wp2_with fail
  refine cD ?_
  repeat (any_goals (first|go_big_quiet_step (first|(go_at_call 107;with_reducible exact Bh (hN _ _).out)|fail)|quiet_step (first|(go_at_call 107;with_reducible exact Bh (hN _ _).out)|fail)))
  refine wpQuiet_nil ?_
  intro w1 hw1
  replace hw1:=ac hw1
  go_wp2
  go_ret
  exact ⟨rfl,hwC.out.trans (hw1.mono (by omega))⟩)
theorem zD {h:Int}:cF (!decide (0≤h)) 7=cF (decide (h<0)) 7:=by rw [nq]
theorem yl (p:Pg) (s:Sa):jh p s=cF (!ni p s) 7:=by
 unfold jh ni
 by_cases h:s.dest=aB
 ·rw [if_pos h,if_pos h]
 ·rw [if_neg h,if_neg h];rfl
theorem wC (A1 A2 A3 A4 A5 A6 A7:Option Addr) (p:Pg) (c1 c2 c3 c4 c5 c6 c7:Nat) (B:Nat) (hm:bg p=true):∀ x∈ao p,∀ (cs:List Value) (w:World),B≤w.heap.size→bu w B A1 A2 A3 A4 A5 A6 A7 p→oL w B cs x→
  Calls prog 40 #[.agg (aq p A1 A2 A3 A4 A5 A6 A7 c1 c2 c3 c4 c5 c6 c7),.agg cs.toArray] w fun r w'=>r=.returned (.int .i64 (aH p x))∧Below w.heap.size w w':=by
 unfold aq
 have hh:∀ (i:Nat) (f:Hd),p.headers[i]? =some f→iJ f=true:=fun i f hi=>by
  simp only [bg,Bn] at hm
  exact Bw.1 hm.1.1.1.1.1.1.2 f (BQ hi)
 refine i9 ?_ ?_ ?_ ?_ ?_ ?_ ?_ ?_ ?_ ?_ ?_ ?_ ?_ ?_ ?_
 ·rintro i f hi cs w hB hP ⟨scs,rfl,hs⟩
  obtain ⟨s0,s1,s2,s3,s4,s5,s6,s7,s8,s9,s10,s11,s12,s13,rfl⟩:=aI hs
  refine (dv A1 A2 A3 A4 A5 A6 A7 p c1 c2 c3 c4 c5 c6 c7 B 1 (by decide) (i:Int) 0 _ s0 s1 s2 s3 s4 s5 s6 s7 s8 s9 s10 s11 s12 s13 w hB fun W h1 h2=>nU A1 A2 A3 A4 A5 A6 A7 p c1 c2 c3 c4 c5 c6 c7 B i f s0 s1 s2 s3 s4 s5 s6 s7 s8 s9 s10 s11 s12 s13 W h1 (hP.below (h2.mono hB)) (hh i f hi) hi).mono ?_
  rintro e w' ⟨rfl,hb⟩
  exact ⟨ag (by simp [aH,hi]),hb⟩
 ·rintro i j f g hi hj cs w hB hP ⟨scs,rfl,hs⟩
  obtain ⟨s0,s1,s2,s3,s4,s5,s6,s7,s8,s9,s10,s11,s12,s13,rfl⟩:=aI hs
  refine (dv A1 A2 A3 A4 A5 A6 A7 p c1 c2 c3 c4 c5 c6 c7 B 2 (by decide) (i:Int) (j:Int) _ s0 s1 s2 s3 s4 s5 s6 s7 s8 s9 s10 s11 s12 s13 w hB fun W h1 h2=>qc A1 A2 A3 A4 A5 A6 A7 p c1 c2 c3 c4 c5 c6 c7 B i j f g s0 s1 s2 s3 s4 s5 s6 s7 s8 s9 s10 s11 s12 s13 W h1 (hP.below (h2.mono hB)) hi hj).mono ?_
  rintro e w' ⟨rfl,hb⟩
  exact ⟨ag (by simp [aH,hi,hj]),hb⟩
 ·rintro i f hi cs w hB hP ⟨scs,rfl,hs⟩
  obtain ⟨s0,s1,s2,s3,s4,s5,s6,s7,s8,s9,s10,s11,s12,s13,rfl⟩:=aI hs
  refine (dv A1 A2 A3 A4 A5 A6 A7 p c1 c2 c3 c4 c5 c6 c7 B 3 (by decide) (i:Int) 0 _ s0 s1 s2 s3 s4 s5 s6 s7 s8 s9 s10 s11 s12 s13 w hB fun W h1 h2=>rT A1 A2 A3 A4 A5 A6 A7 p c1 c2 c3 c4 c5 c6 c7 B i f s0 s1 s2 s3 s4 s5 s6 s7 s8 s9 s10 s11 s12 s13 W h1 (hP.below (h2.mono hB)) hi).mono ?_
  rintro e w' ⟨rfl,hb⟩
  exact ⟨ag (by simp [aH,hi]),hb⟩
 ·rintro i f hi cs w hB hP ⟨scs,rfl,hs⟩
  obtain ⟨s0,s1,s2,s3,s4,s5,s6,s7,s8,s9,s10,s11,s12,s13,rfl⟩:=aI hs
  refine (dv A1 A2 A3 A4 A5 A6 A7 p c1 c2 c3 c4 c5 c6 c7 B 4 (by decide) (i:Int) 0 _ s0 s1 s2 s3 s4 s5 s6 s7 s8 s9 s10 s11 s12 s13 w hB fun W h1 h2=>p9 A1 A2 A3 A4 A5 A6 A7 p c1 c2 c3 c4 c5 c6 c7 B i f s0 s1 s2 s3 s4 s5 s6 s7 s8 s9 s10 s11 s12 s13 W h1 (hP.below (h2.mono hB)) hi).mono ?_
  rintro e w' ⟨rfl,hb⟩
  exact ⟨ag (by simp [aH,hi]),hb⟩
 ·rintro i j f g hi hj cs w hB hP ⟨scs,rfl,hs⟩
  obtain ⟨s0,s1,s2,s3,s4,s5,s6,s7,s8,s9,s10,s11,s12,s13,rfl⟩:=aI hs
  refine (nP A1 A2 A3 A4 A5 A6 A7 p c1 c2 c3 c4 c5 c6 c7 B 5 (by decide) (i:Int) (j:Int) _ s0 s1 s2 s3 s4 s5 s6 s7 s8 s9 s10 s11 s12 s13 w hB fun W h1 h2=>nM A1 A2 A3 A4 A5 A6 A7 p c1 c2 c3 c4 c5 c6 c7 B i f j g s0 s1 s2 s3 s4 s5 s6 s7 s8 s9 s10 s11 s12 s13 W h1 (hP.below (h2.mono hB)) hi hj).mono ?_
  rintro e w' ⟨rfl,hb⟩
  exact ⟨ag (by simp [aH,hi,hj,zD]),hb⟩
 ·rintro i f hi cs w hB hP ⟨scs,rfl,hs⟩
  obtain ⟨s0,s1,s2,s3,s4,s5,s6,s7,s8,s9,s10,s11,s12,s13,rfl⟩:=aI hs
  refine (nQ A1 A2 A3 A4 A5 A6 A7 p c1 c2 c3 c4 c5 c6 c7 B 6 (by decide) (i:Int) 0 _ s0 s1 s2 s3 s4 s5 s6 s7 s8 s9 s10 s11 s12 s13 w hB fun W h1 h2=>nO A1 A2 A3 A4 A5 A6 A7 p c1 c2 c3 c4 c5 c6 c7 B i f 0 s0 s1 s2 s3 s4 s5 s6 s7 s8 s9 s10 s11 s12 s13 W h1 (hP.below (h2.mono hB)) hi).mono ?_
  rintro e w' ⟨rfl,hb⟩
  exact ⟨ag (by simp [aH,hi,yl]),hb⟩
 ·rintro i j f g hi hj cs w hB hP ⟨scs,rfl,hs⟩
  obtain ⟨s0,s1,s2,s3,s4,s5,s6,s7,s8,s9,s10,s11,s12,s13,rfl⟩:=aI hs
  refine (nR A1 A2 A3 A4 A5 A6 A7 p c1 c2 c3 c4 c5 c6 c7 B 7 (by decide) (i:Int) (j:Int) _ s0 s1 s2 s3 s4 s5 s6 s7 s8 s9 s10 s11 s12 s13 w hB fun W h1 h2=>nN A1 A2 A3 A4 A5 A6 A7 p c1 c2 c3 c4 c5 c6 c7 B i f j g s0 s1 s2 s3 s4 s5 s6 s7 s8 s9 s10 s11 s12 s13 W h1 (hP.below (h2.mono hB)) hi hj).mono ?_
  rintro e w' ⟨rfl,hb⟩
  exact ⟨ag (by simp [aH,hi,hj,zO]),hb⟩
 ·rintro i f hi cs w hB hP ⟨scs,rfl,hs⟩
  obtain ⟨s0,s1,s2,s3,s4,s5,s6,s7,s8,s9,s10,s11,s12,s13,rfl⟩:=aI hs
  refine (dv A1 A2 A3 A4 A5 A6 A7 p c1 c2 c3 c4 c5 c6 c7 B 8 (by decide) (i:Int) 0 _ s0 s1 s2 s3 s4 s5 s6 s7 s8 s9 s10 s11 s12 s13 w hB fun W h1 h2=>nT A1 A2 A3 A4 A5 A6 A7 p c1 c2 c3 c4 c5 c6 c7 B i f s0 s1 s2 s3 s4 s5 s6 s7 s8 s9 s10 s11 s12 s13 W h1 (hP.below (h2.mono hB)) hi).mono ?_
  rintro e w' ⟨rfl,hb⟩
  exact ⟨ag (by simp [aH,hi]),hb⟩
 ·rintro i j f g hi hj cs w hB hP ⟨scs,rfl,hs⟩
  obtain ⟨s0,s1,s2,s3,s4,s5,s6,s7,s8,s9,s10,s11,s12,s13,rfl⟩:=aI hs
  refine (dv A1 A2 A3 A4 A5 A6 A7 p c1 c2 c3 c4 c5 c6 c7 B 9 (by decide) (i:Int) (j:Int) _ s0 s1 s2 s3 s4 s5 s6 s7 s8 s9 s10 s11 s12 s13 w hB fun W h1 h2=>qd A1 A2 A3 A4 A5 A6 A7 p c1 c2 c3 c4 c5 c6 c7 B i j f g s0 s1 s2 s3 s4 s5 s6 s7 s8 s9 s10 s11 s12 s13 W h1 (hP.below (h2.mono hB)) hi hj).mono ?_
  rintro e w' ⟨rfl,hb⟩
  exact ⟨ag (by simp [aH,hi,hj]),hb⟩
 ·rintro a st cs w hB hP ⟨scs,rfl,hs⟩
  obtain ⟨s0,s1,s2,s3,s4,s5,s6,s7,s8,s9,s10,s11,s12,s13,rfl⟩:=aI hs
  refine (tS A1 A2 A3 A4 A5 A6 A7 p c1 c2 c3 c4 c5 c6 c7 B a st s0 s1 s2 s3 s4 s5 s6 s7 s8 s9 s10 s11 s12 s13 w hB hP hs).mono ?_
  rintro e w' ⟨rfl,hb⟩
  exact ⟨ag (by simp [aH]),hb⟩
 ·rintro i f hi cs w hB hP ⟨scs,rfl,hs⟩
  obtain ⟨s0,s1,s2,s3,s4,s5,s6,s7,s8,s9,s10,s11,s12,s13,rfl⟩:=aI hs
  refine (dv A1 A2 A3 A4 A5 A6 A7 p c1 c2 c3 c4 c5 c6 c7 B 11 (by decide) (i:Int) 0 _ s0 s1 s2 s3 s4 s5 s6 s7 s8 s9 s10 s11 s12 s13 w hB fun W h1 h2=>pZ A1 A2 A3 A4 A5 A6 A7 p c1 c2 c3 c4 c5 c6 c7 B i f s0 s1 s2 s3 s4 s5 s6 s7 s8 s9 s10 s11 s12 s13 W h1 (hP.below (h2.mono hB)) hi).mono ?_
  rintro e w' ⟨rfl,hb⟩
  exact ⟨ag (by simp [aH,hi]),hb⟩
 ·rintro i j f g hi hj cs w hB hP ⟨scs,rfl,hs⟩
  obtain ⟨s0,s1,s2,s3,s4,s5,s6,s7,s8,s9,s10,s11,s12,s13,rfl⟩:=aI hs
  refine (wB A1 A2 A3 A4 A5 A6 A7 p c1 c2 c3 c4 c5 c6 c7 B i j f g s0 s1 s2 s3 s4 s5 s6 s7 s8 s9 s10 s11 s12 s13 w hB hP hi hj).mono ?_
  rintro e w' ⟨rfl,hb⟩
  exact ⟨ag (by simp [aH,hi,hj]),hb⟩
 ·rintro i j f g hi hj cs w hB hP ⟨scs,rfl,hs⟩
  obtain ⟨s0,s1,s2,s3,s4,s5,s6,s7,s8,s9,s10,s11,s12,s13,rfl⟩:=aI hs
  refine (nj A1 A2 A3 A4 A5 A6 A7 p c1 c2 c3 c4 c5 c6 c7 B 13 (by decide) (i:Int) (j:Int) _ s0 s1 s2 s3 s4 s5 s6 s7 s8 s9 s10 s11 s12 s13 w hB fun W h1 h2=>lQ A1 A2 A3 A4 A5 A6 A7 p c1 c2 c3 c4 c5 c6 c7 B i j f g s0 s1 s2 s3 s4 s5 s6 s7 s8 s9 s10 s11 s12 s13 W h1 (hP.below (h2.mono hB)) hi hj).mono ?_
  rintro e w' ⟨rfl,hb⟩
  exact ⟨ag (by simp [aH,hi,hj]),hb⟩
 ·rintro i f hi cs w hB hP ⟨scs,rfl,hs⟩
  obtain ⟨s0,s1,s2,s3,s4,s5,s6,s7,s8,s9,s10,s11,s12,s13,rfl⟩:=aI hs
  refine (nk A1 A2 A3 A4 A5 A6 A7 p c1 c2 c3 c4 c5 c6 c7 B 14 (by decide) (i:Int) 0 _ s0 s1 s2 s3 s4 s5 s6 s7 s8 s9 s10 s11 s12 s13 w hB fun W h1 h2=>kF A1 A2 A3 A4 A5 A6 A7 p c1 c2 c3 c4 c5 c6 c7 B i f s0 s1 s2 s3 s4 s5 s6 s7 s8 s9 s10 s11 s12 s13 W h1 (hP.below (h2.mono hB)) hi).mono ?_
  rintro e w' ⟨rfl,hb⟩
  exact ⟨ag (by simp [aH,hi]),hb⟩
 ·rintro i f hi cs w hB hP ⟨scs,rfl,hs⟩
  obtain ⟨s0,s1,s2,s3,s4,s5,s6,s7,s8,s9,s10,s11,s12,s13,rfl⟩:=aI hs
  refine (np A1 A2 A3 A4 A5 A6 A7 p c1 c2 c3 c4 c5 c6 c7 B 15 (by decide) (i:Int) 0 _ s0 s1 s2 s3 s4 s5 s6 s7 s8 s9 s10 s11 s12 s13 w hB fun W h1 h2=>nS A1 A2 A3 A4 A5 A6 A7 p c1 c2 c3 c4 c5 c6 c7 B i f s0 s1 s2 s3 s4 s5 s6 s7 s8 s9 s10 s11 s12 s13 W h1 (hP.below (h2.mono hB)) hi).mono ?_
  rintro e w' ⟨rfl,hb⟩
  exact ⟨ag (by simp [aH,hi]),hb⟩
section
attribute [local go_sem ↓] pX
theorem nV {p:Pg} {l:List It} {k:Nat} (hk:k<l.length) (h:aH p l[k]=0):bq p (l.drop k) k=bq p (l.drop (k+1)) (k+1):=by
 rw [List.drop_eq_getElem_cons hk,bq,if_pos h]
theorem nW {p:Pg} {l:List It} {k:Nat} (hk:k<l.length) (h:¬aH p l[k]=0):bq p (l.drop k) k=((k:Int),aH p l[k]):=by
 rw [List.drop_eq_getElem_cons hk,bq,if_neg h]
theorem qe {p:Pg} {l:List It} {k:Nat} (hk:l.length≤k):bq p (l.drop k) k=((k:Int),0):=by
 rw [List.drop_of_length_le hk,bq]
theorem nr {k k':IntKind} {a b:Int} {x y:Int} (h:a=b) (g:x=y):Ending.returned (.tuple #[.int k a,.int k' x])=.returned (.tuple #[.int k b,.int k' y]):=by rw [h,g]
theorem qf (A1 A2 A3 A4 A5 A6 A7:Option Addr) (p:Pg) (c1 c2 c3 c4 c5 c6 c7:Nat) (B:Nat) (w:World) (hB:B≤w.heap.size) (hP:bu w B A1 A2 A3 A4 A5 A6 A7 p) (hbig:bg p=true→(ao p).length≤dd):
  Calls prog 22 #[.agg (aq p A1 A2 A3 A4 A5 A6 A7 c1 c2 c3 c4 c5 c6 c7)] w fun e w'=>e=.returned (.tuple #[.int .i64 (aZ p).1,.int .i64 (aZ p).2])∧Below w.heap.size w w':=by
 unfold aq
 obtain ⟨wb,hwb,hsz,hba,hcb,-⟩:=al w (aq p A1 A2 A3 A4 A5 A6 A7 c1 c2 c3 c4 c5 c6 c7) 30
 obtain ⟨y0,y1,y2,y3,y4,y5,y6⟩:=aF (w:=wb) (a:=w.heap.size) fun i=>hcb i
 have hb0:Below wb.heap.size wb wb:=Bi _ _
 have hBk:=aa (show ∀ W,Below wb.heap.size wb W→Below w.heap.size w W from fun W hb=>hba.trans (hb.mono (by omega)))
 have hBb:B≤wb.heap.size:=by omega
 have hlz:w.heap.size<wb.heap.size:=by omega
 have hP2:=aa (hP.below (hba.mono hB))
 have hM:=aa (vP wb A1 A2 A3 A4 A5 A6 A7 p c1 c2 c3 c4 c5 c6 c7 hBb hP2.out)
 have hv:=aa (show aZ p=if bg p then bq p (ao p) 0 else (-1,2) from rfl)
 replace hbig:=aa hbig
 clear hcb hba hP hb0
 replace hsz:=aa hsz
 cases hm:bg p with
 |false=>
  rw [hm] at hM hv
  clear hm hbig
  go_enter func22,ntmps22
  go_wp2_with fail
  refine hM.out.mono ?_
  rintro _ w1 ⟨rfl,hb1⟩
  go_wp2
  go_ret2
  exact ⟨nr (by rw [hv.out];rfl) (by rw [hv.out];rfl),hBk.out _ hb1⟩
 |true=>
  rw [hm] at hM hv
  have hbg:=hbig.out hm
  have hone:=aa (wC A1 A2 A3 A4 A5 A6 A7 p c1 c2 c3 c4 c5 c6 c7 (hm:=hm))
  clear hm hbig
  go_enter func22,ntmps22
  go_wp2_with fail
  refine hM.out.mono ?_
  rintro _ w1 ⟨rfl,hb1⟩
  have kb1:=ab hb1
  have hI:=aa (lF A1 A2 A3 A4 A5 A6 A7 p c1 c2 c3 c4 c5 c6 c7 B w1 (Bj hBb hb1.size) (hP2.out.below (hb1.mono hBb)) hbg)
  go_wp2_with fail
  refine hI.out.mono ?_
  rintro _ w2 ⟨v2,rfl,hI2,hb2⟩
  have hb02:=hb1.trans (hb2.mono hb1.size)
  have hz2:=hb02.size
  obtain ⟨AI,capI,rfl,hS⟩:=hI2.sl (Bj hBb hz2) hbg
  have hn:(ao p).length≤100000000:=hbg
  have hP3:=aa ((hP2.out.below (hb02.mono hBb)).more (Bj hBb hz2))
  have kb2:=ab hb02
  have z0:=(kb2.1 w.heap.size 0 hlz).trans y0
  have z1:=(kb2.1 w.heap.size 1 hlz).trans y1
  have z2:=(kb2.1 w.heap.size 2 hlz).trans y2
  have z3:=(kb2.1 w.heap.size 3 hlz).trans y3
  have z4:=(kb2.1 w.heap.size 4 hlz).trans y4
  have z5:=(kb2.1 w.heap.size 5 hlz).trans y5
  have z6:=(kb2.1 w.heap.size 6 hlz).trans y6
  replace hS:=aa hS
  replace hb02:=aa hb02
  have hl2:w.heap.size<w2.heap.size:=by omega
  have hv0:=aa (show bq p ((ao p).drop 0) 0=aZ p from by rw [hv.out];rfl)
  clear hI hI2 kb1 hb1 hb2 hM hP2 kb2 y0 y1 y2 y3 y4 y5 y6 hv
  go_wp2
  go_loopw [5] (fun i wr=>∃ k:Nat,k≤(ao p).length∧i=.int .i64 k∧Hid (bq p ((ao p).drop k) k=aZ p)∧Hid (Below w2.heap.size w2 wr)) (fun i _=>(ao p).length-(intOf i).toNat)
  case atStart=>exact ⟨0,Bo _,rfl,hv0,aa (Bi _ _)⟩
  case round=>
   clear hv0
   obtain ⟨k,hk,rfl,hf,hbr⟩:=hrel
   have hzr:=hbr.out.size
   have hc:=ab hbr.out
   have hBr:=aa (fun W (hb:Below w2.heap.size w2 W)=>hBk.out W (hb02.out.trans (hb.mono hz2)))
   by_cases hlt:k<(ao p).length
   ·obtain ⟨b,o,ecs,hA,hb,hel,hcell,hr⟩:=hS.out.2 k _ (Bk hlt)
    subst hA
    have hltz:(k:Int)<((ao p).length:Int):=by omega
    have hX0:=fun d os=>hone.out w2.heap.size _ (Bv hlt) ecs (Bl (redrawn wr d) os) (by have:=cH wr d os;omega) (hP3.out.below (aA hbr.out hzr d os)) (dJ.keep hr fun q hq=>(aA hbr.out hzr d os).cell hq)
    have hnx:=aa (fun h=>(nV (p:=p) hlt h).symm.trans hf.out)
    have hst:=aa (fun h=>(nW (p:=p) hlt h).symm.trans hf.out)
    generalize aH p (ao p)[k]=e at hX0 hnx hst
    generalize (ao p)[k]=x at hr
    obtain ⟨scs,rfl,hs⟩:=hr
    obtain ⟨s0,s1,s2,s3,s4,s5,s6,s7,s8,s9,s10,s11,s12,s13,rfl⟩:=aI hs
    obtain ⟨x0,x1,x2,x3,x4,x5,x6,x7,x8,x9,x10,x11,x12,x13,x14,x15,x16⟩:=sx hcell
    have hX:∀ d os,Hid (Calls prog 40 #[.agg (aq p A1 A2 A3 A4 A5 A6 A7 c1 c2 c3 c4 c5 c6 c7),.agg #[.int .u8 x.kind,.int .i64 x.a,.int .i64 x.b,s0,s1,s2,s3,s4,s5,s6,s7,s8,s9,s10,s11,s12,s13]] (Bl (redrawn wr d) os) _):=fun d os=>aa (hX0 d os)
    have hg:=ax hbr.out hzr
    generalize x.kind=xk at*
    generalize x.a=xa at*
    generalize x.b=xb at*
    clear hcell hs hX0 hel hf
    by_cases he:e=0
    ·have hf1:=aa (hnx.out he)
     subst he
     clear hnx hst
     go_wp2_with fail
     refine cD ?_
     repeat (any_goals (first|go_big_quiet_step (first|(go_at_call 40;with_reducible exact Bh (hX _ _).out))|quiet_step (first|(go_at_call 40;with_reducible exact Bh (hX _ _).out))))
     refine wpQuiet_nil ?_
     intro w3 hw3
     replace hw3:=ac hw3
     go_wp2
     go_roundw
     case rel=>exact ⟨k+1,by omega,by go_num,hf1,aa (hbr.out.trans (hw3.mono hzr))⟩
     case measure=>simp [intOf];omega
    ·have hf1:=aa (hst.out he)
     clear hnx hst
     go_wp2_with fail
     refine cD ?_
     repeat (any_goals (first|go_big_quiet_step (first|(go_at_call 40;with_reducible exact Bh (hX _ _).out))|quiet_step (first|(go_at_call 40;with_reducible exact Bh (hX _ _).out))))
     refine wpQuiet_nil ?_
     intro w3 hw3
     replace hw3:=ac hw3
     go_wp2
     go_ret2
     exact ⟨nr (by rw [←hf1.out]) (by rw [←hf1.out]),hBr.out _ (hbr.out.trans (hw3.mono hzr))⟩
   ·have hke:k=(ao p).length:=by omega
    have hf1:=aa ((qe (p:=p) (l:=ao p) (k:=k) (by omega)).symm.trans hf.out)
    subst hke
    go_wp2
    go_ret2
    exact ⟨nr (by rw [←hf1.out]) (by rw [←hf1.out]),hBr.out _ hbr.out⟩
end
end Go.Proofs.YtbbdhknagofghaaGreat

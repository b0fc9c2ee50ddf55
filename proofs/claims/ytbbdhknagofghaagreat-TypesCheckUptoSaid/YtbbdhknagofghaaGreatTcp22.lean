import Derived.Test.YtbbdhknagofghaaGreatTcp21
set_option linter.all false
set_option maxHeartbeats 8000000
set_option maxRecDepth 100000
open Go.Proofs.Tryz
namespace Go.Proofs.YtbbdhknagofghaaGreat
open _root_.Go.Calls renaming regrown_of→Bh
open _root_.Go.RowKit.Below renaming refl→Bi
open _root_.Nat renaming le_trans→Bj
open _root_.List renaming getElem?_eq_getElem→Bk, getElem?_eq_some_iff→Bp, all_eq_true→Bw, mem_cons→BI, mem_append→BL, mem_of_getElem?→BQ
open _root_.Go.Sort renaming grow→Bl
open _root_.Bool renaming and_eq_true→Bn
open Go.RowKit
theorem rq (A1 A2 A3 A4 A5 A6 A7:Option Addr) (p:Pg) (c1 c2 c3 c4 c5 c6 c7:Nat) (B i:Nat) (f:Sa) (s0 s1 s2 s3 s4 s5 s6 s7 s8 s9 s10 s11 s12 s13:Value) (w:World) (hB:B≤w.heap.size) (hP:bu w B A1 A2 A3 A4 A5 A6 A7 p) (hi:p.states[i]? =some f):
  Calls prog 32 #[.agg (aq p A1 A2 A3 A4 A5 A6 A7 c1 c2 c3 c4 c5 c6 c7),.agg #[.int .u8 4,.int .i64 (i:Int),.int .i64 0,s0,s1,s2,s3,s4,s5,s6,s7,s8,s9,s10,s11,s12,s13]] w fun r w'=>r=.returned (.int .i64 (cF (decide (co p f.name<(i:Int))) 8))∧Below w.heap.size w w':=by
 unfold aq
 obtain ⟨wa,hwa,hsa,wb,hwb,hsb,hw,hqz,hcb⟩:=ic w (aq p A1 A2 A3 A4 A5 A6 A7 c1 c2 c3 c4 c5 c6 c7) 30 #[.int .u8 4,.int .i64 (i:Int),.int .i64 0,s0,s1,s2,s3,s4,s5,s6,s7,s8,s9,s10,s11,s12,s13] 49
 obtain ⟨z0,z1,z2,z3,z4,z5,z6⟩:=aF (w:=wb) (a:=w.heap.size) fun i=>hqz i
 obtain ⟨y0,y1,y2,y3,y4,y5,y6,y7,y8,y9,y10,y11,y12,y13,y14,y15,y16⟩:=bv hcb
 have hl1:w.heap.size<wb.heap.size:=by omega
 have hl2:w.heap.size+1<wb.heap.size:=by omega
 have hz2:w.heap.size+2≤wb.heap.size:=by omega
 have hBb:B≤wb.heap.size:=by omega
 have hP2:=hP.below (hw.mono hB)
 have hb0:Below wb.heap.size wb wb:=Bi _ _
 have hwC:=aa hw
 replace hsb:=aa hsb
 have eg:=ba
 clear hP hqz hcb
 have lst:=hP2.states.len
 obtain ⟨b,o,ecs,hA,hb,hel,hcell,B1,d1,B2,d2,B3,d3,rfl,hn,hd,hF,hG,hH⟩:=hP2.states.2 i _ hi
 subst hA
 obtain ⟨x0,x1,x2,x3,x4⟩:=cN hcell
 have hbw:b<wb.heap.size:=by omega
 have hiz:(i:Int)<(p.states.length:Int):=by have:=(Bp.1 hi).1;omega
 have hg:=ax hb0 hb0.size
 have hX:∀ d os,Hid (Calls prog 86 #[.agg (aq p A1 A2 (some ⟨b,o,none⟩) A4 A5 A6 A7 c1 c2 c3 c4 c5 c6 c7),.string f.name] (Bl (redrawn wb d) os) _):=fun d os=>aa (ow _ A1 A2 (some ⟨b,o,none⟩) A4 A5 A6 A7 p c1 c2 c3 c4 c5 c6 c7 f.name (hP2.grown hBb d os).1 (hP2.grown hBb d os).2)
 generalize co p f.name=zz at hX ⊢
 generalize cA p f.name=zb at hX
 replace hP2:=aa hP2
 clear hb0 hcell hi
 go_enter func32,ntmps32
 go_wp2_with fail
 refine cD ?_
 repeat (any_goals (first|go_big_quiet_step (first|(go_at_call 86;with_reducible exact Bh (hX _ _).out)|fail)|quiet_step (first|(go_at_call 86;with_reducible exact Bh (hX _ _).out)|fail)))
 refine wpQuiet_nil ?_
 intro w1 hw1
 replace hw1:=ac hw1
 have hc1:=ab hw1
 have hT:=aa (jG zz (i:Int) (w.heap.size+1) w1 ((hc1.1 _ _ hl2).trans y1))
 have hB1:wb.heap.size≤w1.heap.size:=hw1.size
 replace hw1:=aa hw1
 go_wp2_with (go_at_fn 79;refine hT.out.mono ?_;rintro e w2 ⟨rfl,hw2⟩)
 go_ret
 exact ⟨rfl,(hwC.out.trans (hw1.out.mono (by omega))).trans (hw2.mono (by omega))⟩
theorem sW (A1 A2 A3 A4 A5 A6 A7:Option Addr) (p:Pg) (c1 c2 c3 c4 c5 c6 c7:Nat) (B i:Nat) (s:Sa) (j:Nat) (nm:ByteArray) (s0 s1 s2 s3 s4 s5 s6 s7 s8 s9 s10 s11 s12 s13:Value) (w:World) (hB:B≤w.heap.size) (hP:bu w B A1 A2 A3 A4 A5 A6 A7 p) (hi:p.states[i]? =some s) (hj:s.takes[j]? =some nm):
  Calls prog 32 #[.agg (aq p A1 A2 A3 A4 A5 A6 A7 c1 c2 c3 c4 c5 c6 c7),.agg #[.int .u8 5,.int .i64 (i:Int),.int .i64 (j:Int),s0,s1,s2,s3,s4,s5,s6,s7,s8,s9,s10,s11,s12,s13]] w fun r w'=>r=.returned (.int .i64 (cF (decide (ap p nm<0)) 7))∧Below w.heap.size w w':=by
 unfold aq
 obtain ⟨wa,hwa,hsa,wb,hwb,hsb,hw,hqz,hcb⟩:=ic w (aq p A1 A2 A3 A4 A5 A6 A7 c1 c2 c3 c4 c5 c6 c7) 30 #[.int .u8 5,.int .i64 (i:Int),.int .i64 (j:Int),s0,s1,s2,s3,s4,s5,s6,s7,s8,s9,s10,s11,s12,s13] 49
 obtain ⟨z0,z1,z2,z3,z4,z5,z6⟩:=aF (w:=wb) (a:=w.heap.size) fun i=>hqz i
 obtain ⟨y0,y1,y2,y3,y4,y5,y6,y7,y8,y9,y10,y11,y12,y13,y14,y15,y16⟩:=bv hcb
 have hl1:w.heap.size<wb.heap.size:=by omega
 have hl2:w.heap.size+1<wb.heap.size:=by omega
 have hz2:w.heap.size+2≤wb.heap.size:=by omega
 have hBb:B≤wb.heap.size:=by omega
 have hP2:=hP.below (hw.mono hB)
 have hb0:Below wb.heap.size wb wb:=Bi _ _
 have hwC:=aa hw
 replace hsb:=aa hsb
 have eg:=ba
 clear hP hqz hcb
 have hX:=aa (ri A1 A2 A3 A4 A5 A6 A7 p c1 c2 c3 c4 c5 c6 c7 B i s j nm s0 s1 s2 s3 s4 s5 s6 s7 s8 s9 s10 s11 s12 s13 wb hBb hP2 hi hj)
 replace hP2:=aa hP2
 clear hb0 hi eg
 go_enter func32,ntmps32
 go_wp2_with (go_at_call 87;refine hX.out.mono ?_;rintro e w1 ⟨rfl,hw1⟩)
 go_ret
 exact ⟨rfl,hwC.out.trans (hw1.mono (by omega))⟩
theorem sX (A1 A2 A3 A4 A5 A6 A7:Option Addr) (p:Pg) (c1 c2 c3 c4 c5 c6 c7:Nat) (B i:Nat) (s:Sa) (j:Int) (s0 s1 s2 s3 s4 s5 s6 s7 s8 s9 s10 s11 s12 s13:Value) (w:World) (hB:B≤w.heap.size) (hP:bu w B A1 A2 A3 A4 A5 A6 A7 p) (hi:p.states[i]? =some s):
  Calls prog 32 #[.agg (aq p A1 A2 A3 A4 A5 A6 A7 c1 c2 c3 c4 c5 c6 c7),.agg #[.int .u8 6,.int .i64 (i:Int),.int .i64 j,s0,s1,s2,s3,s4,s5,s6,s7,s8,s9,s10,s11,s12,s13]] w fun r w'=>r=.returned (.int .i64 (jh p s))∧Below w.heap.size w w':=by
 unfold aq
 obtain ⟨wa,hwa,hsa,wb,hwb,hsb,hw,hqz,hcb⟩:=ic w (aq p A1 A2 A3 A4 A5 A6 A7 c1 c2 c3 c4 c5 c6 c7) 30 #[.int .u8 6,.int .i64 (i:Int),.int .i64 j,s0,s1,s2,s3,s4,s5,s6,s7,s8,s9,s10,s11,s12,s13] 49
 obtain ⟨z0,z1,z2,z3,z4,z5,z6⟩:=aF (w:=wb) (a:=w.heap.size) fun i=>hqz i
 obtain ⟨y0,y1,y2,y3,y4,y5,y6,y7,y8,y9,y10,y11,y12,y13,y14,y15,y16⟩:=bv hcb
 have hl1:w.heap.size<wb.heap.size:=by omega
 have hl2:w.heap.size+1<wb.heap.size:=by omega
 have hz2:w.heap.size+2≤wb.heap.size:=by omega
 have hBb:B≤wb.heap.size:=by omega
 have hP2:=hP.below (hw.mono hB)
 have hb0:Below wb.heap.size wb wb:=Bi _ _
 have hwC:=aa hw
 replace hsb:=aa hsb
 have eg:=ba
 clear hP hqz hcb
 have hX:=aa (rk A1 A2 A3 A4 A5 A6 A7 p c1 c2 c3 c4 c5 c6 c7 B i s j s0 s1 s2 s3 s4 s5 s6 s7 s8 s9 s10 s11 s12 s13 wb hBb hP2 hi)
 replace hP2:=aa hP2
 clear hb0 hi eg
 go_enter func32,ntmps32
 go_wp2_with (go_at_call 87;refine hX.out.mono ?_;rintro e w1 ⟨rfl,hw1⟩)
 go_ret
 exact ⟨rfl,hwC.out.trans (hw1.mono (by omega))⟩
theorem sY (A1 A2 A3 A4 A5 A6 A7:Option Addr) (p:Pg) (c1 c2 c3 c4 c5 c6 c7:Nat) (B i:Nat) (s:Sa) (j:Nat) (c:Ca) (s0 s1 s2 s3 s4 s5 s6 s7 s8 s9 s10 s11 s12 s13:Value) (w:World) (hB:B≤w.heap.size) (hP:bu w B A1 A2 A3 A4 A5 A6 A7 p) (hi:p.states[i]? =some s) (hj:s.cases_[j]? =some c):
  Calls prog 32 #[.agg (aq p A1 A2 A3 A4 A5 A6 A7 c1 c2 c3 c4 c5 c6 c7),.agg #[.int .u8 7,.int .i64 (i:Int),.int .i64 (j:Int),s0,s1,s2,s3,s4,s5,s6,s7,s8,s9,s10,s11,s12,s13]] w fun r w'=>r=.returned (.int .i64 (zO p c.dest))∧Below w.heap.size w w':=by
 unfold aq
 obtain ⟨wa,hwa,hsa,wb,hwb,hsb,hw,hqz,hcb⟩:=ic w (aq p A1 A2 A3 A4 A5 A6 A7 c1 c2 c3 c4 c5 c6 c7) 30 #[.int .u8 7,.int .i64 (i:Int),.int .i64 (j:Int),s0,s1,s2,s3,s4,s5,s6,s7,s8,s9,s10,s11,s12,s13] 49
 obtain ⟨z0,z1,z2,z3,z4,z5,z6⟩:=aF (w:=wb) (a:=w.heap.size) fun i=>hqz i
 obtain ⟨y0,y1,y2,y3,y4,y5,y6,y7,y8,y9,y10,y11,y12,y13,y14,y15,y16⟩:=bv hcb
 have hl1:w.heap.size<wb.heap.size:=by omega
 have hl2:w.heap.size+1<wb.heap.size:=by omega
 have hz2:w.heap.size+2≤wb.heap.size:=by omega
 have hBb:B≤wb.heap.size:=by omega
 have hP2:=hP.below (hw.mono hB)
 have hb0:Below wb.heap.size wb wb:=Bi _ _
 have hwC:=aa hw
 replace hsb:=aa hsb
 have eg:=ba
 clear hP hqz hcb
 have hX:=aa (rj A1 A2 A3 A4 A5 A6 A7 p c1 c2 c3 c4 c5 c6 c7 B i s j c s0 s1 s2 s3 s4 s5 s6 s7 s8 s9 s10 s11 s12 s13 wb hBb hP2 hi hj)
 replace hP2:=aa hP2
 clear hb0 hi eg
 go_enter func32,ntmps32
 go_wp2_with (go_at_call 87;refine hX.out.mono ?_;rintro e w1 ⟨rfl,hw1⟩)
 go_ret
 exact ⟨rfl,hwC.out.trans (hw1.mono (by omega))⟩
theorem sZ (A1 A2 A3 A4 A5 A6 A7:Option Addr) (p:Pg) (c1 c2 c3 c4 c5 c6 c7:Nat) (B:Nat) (act:Int) (st:St) (s0 s1 s2 s3 s4 s5 s6 s7 s8 s9 s10 s11 s12 s13:Value) (w:World) (hB:B≤w.heap.size) (hP:bu w B A1 A2 A3 A4 A5 A6 A7 p) (hst:dR w B [s0,s1,s2,s3,s4,s5,s6,s7,s8,s9,s10,s11,s12,s13] st):
  Calls prog 32 #[.agg (aq p A1 A2 A3 A4 A5 A6 A7 c1 c2 c3 c4 c5 c6 c7),.agg #[.int .u8 10,.int .i64 act,.int .i64 0,s0,s1,s2,s3,s4,s5,s6,s7,s8,s9,s10,s11,s12,s13]] w fun r w'=>r=.returned (.int .i64 (eO p act st))∧Below w.heap.size w w':=by
 unfold aq
 obtain ⟨wa,hwa,hsa,hba,hca,-⟩:=al w (aq p A1 A2 A3 A4 A5 A6 A7 c1 c2 c3 c4 c5 c6 c7) 30
 obtain ⟨wb,hwb,hsb,hbb,hcb,-⟩:=al wa #[.int .u8 10,.int .i64 act,.int .i64 0,s0,s1,s2,s3,s4,s5,s6,s7,s8,s9,s10,s11,s12,s13] 49
 have hw:=hba.trans (hbb.mono (by omega))
 have q:∀ i,wb.cell? ⟨w.heap.size,i,none⟩=wa.cell? ⟨w.heap.size,i,none⟩:=fun i=>hbb.cell (p:=⟨w.heap.size,i,none⟩) (by show w.heap.size<_;omega)
 have hqz:=fun i=>(q i).trans (hca i)
 obtain ⟨z0,z1,z2,z3,z4,z5,z6⟩:=aF (w:=wb) (a:=w.heap.size) fun i=>hqz i
 simp only [hsa] at hcb
 obtain ⟨y0,y1,y2,y3,y4,y5,y6,y7,y8,y9,y10,y11,y12,y13,y14,y15,y16⟩:=bv hcb
 have hl1:w.heap.size<wb.heap.size:=by omega
 have hl2:w.heap.size+1<wb.heap.size:=by omega
 have hz2:w.heap.size+2≤wb.heap.size:=by omega
 have hBb:B≤wb.heap.size:=by omega
 have hP2:=hP.below (hw.mono hB)
 have hb0:Below wb.heap.size wb wb:=Bi _ _
 have hwC:=aa hw
 replace hsb:=aa hsb
 have eg:=ba
 clear hP hqz q hbb hba hca hcb
 have hX:=aa (xn A1 A2 A3 A4 A5 A6 A7 p c1 c2 c3 c4 c5 c6 c7 act B st [s0,s1,s2,s3,s4,s5,s6,s7,s8,s9,s10,s11,s12,s13] wb hBb hP2 (be.keep hst fun q hq=>(hwC.out.mono hB).cell hq))
 replace hP2:=aa hP2
 clear hb0 hst eg
 go_enter func32,ntmps32
 go_wp2_with (go_at_call 89;refine hX.out.mono ?_;rintro e w1 ⟨rfl,hw1⟩)
 go_ret
 exact ⟨rfl,hwC.out.trans (hw1.mono (by omega))⟩
theorem vw (A1 A2 A3 A4 A5 A6 A7:Option Addr) (p:Pg) (c1 c2 c3 c4 c5 c6 c7:Nat) (B i:Nat) (j:Nat) (f:Ta) (g:Ky) (s0 s1 s2 s3 s4 s5 s6 s7 s8 s9 s10 s11 s12 s13:Value) (w:World) (hB:B≤w.heap.size) (hP:bu w B A1 A2 A3 A4 A5 A6 A7 p) (hi:p.tables[i]? =some f) (hj:f.keys[j]? =some g):
  Calls prog 32 #[.agg (aq p A1 A2 A3 A4 A5 A6 A7 c1 c2 c3 c4 c5 c6 c7),.agg #[.int .u8 12,.int .i64 (i:Int),.int .i64 (j:Int),s0,s1,s2,s3,s4,s5,s6,s7,s8,s9,s10,s11,s12,s13]] w fun r w'=>r=.returned (.int .i64 (cZ p (-1) g.e))∧Below w.heap.size w w':=by
 unfold aq
 obtain ⟨wa,hwa,hsa,hba,hca,-⟩:=al w (aq p A1 A2 A3 A4 A5 A6 A7 c1 c2 c3 c4 c5 c6 c7) 30
 obtain ⟨wb,hwb,hsb,hbb,hcb,-⟩:=al wa #[.int .u8 12,.int .i64 (i:Int),.int .i64 (j:Int),s0,s1,s2,s3,s4,s5,s6,s7,s8,s9,s10,s11,s12,s13] 49
 have hw:=hba.trans (hbb.mono (by omega))
 have q:∀ i,wb.cell? ⟨w.heap.size,i,none⟩=wa.cell? ⟨w.heap.size,i,none⟩:=fun i=>hbb.cell (p:=⟨w.heap.size,i,none⟩) (by show w.heap.size<_;omega)
 have hqz:=fun i=>(q i).trans (hca i)
 obtain ⟨z0,z1,z2,z3,z4,z5,z6⟩:=aF (w:=wb) (a:=w.heap.size) fun i=>hqz i
 simp only [hsa] at hcb
 obtain ⟨y0,y1,y2,y3,y4,y5,y6,y7,y8,y9,y10,y11,y12,y13,y14,y15,y16⟩:=bv hcb
 have hl1:w.heap.size<wb.heap.size:=by omega
 have hl2:w.heap.size+1<wb.heap.size:=by omega
 have hz2:w.heap.size+2≤wb.heap.size:=by omega
 have hBb:B≤wb.heap.size:=by omega
 have hP2:=hP.below (hw.mono hB)
 have hb0:Below wb.heap.size wb wb:=Bi _ _
 have hwC:=aa hw
 replace hsb:=aa hsb
 have eg:=ba
 clear hP hqz q hbb hba hca hcb
 have lst:=hP2.tables.len
 obtain ⟨b,o,ecs,hA,hb,hel,hcell,B1,d1,B2,d2,B3,d3,rfl,hn,hd,hF,hG,hH⟩:=hP2.tables.2 i _ hi
 subst hA
 obtain ⟨x0,x1,x2,x3,x4⟩:=cN hcell
 have hbw:b<wb.heap.size:=by omega
 have hiz:(i:Int)<(p.tables.length:Int):=by have:=(Bp.1 hi).1;omega
 have hlf:=hF.len
 obtain ⟨b',o',ecs',hA',hb',hel',hcell',es,rfl,hz,he⟩:=hF.2 j _ hj
 subst hA'
 have hN:∀ d os,Hid (Calls prog 91 #[.agg (aq p A1 A2 A3 A4 (some ⟨b,o,none⟩) A6 A7 c1 c2 c3 c4 c5 c6 c7),.int .i64 (-1),.agg es.toArray] (Bl (redrawn wb d) os) _):=fun d os=>aa (kl A1 A2 A3 A4 (some ⟨b,o,none⟩) A6 A7 p c1 c2 c3 c4 c5 c6 c7 (-1) B g.e es _ (hP2.grown hBb d os).1 (hP2.grown hBb d os).2 (ai.keep he fun q hq=>((below_regrown wb d os).mono hBb).cell hq))
 obtain ⟨ge,gk⟩:=g
 obtain ⟨op,lit,head,name,hi0,lo,args⟩:=ge
 obtain ⟨Ae,ecap,rfl,-,-,-,-,-,-,hs⟩:=RE.inv he
 have le:=hs.len
 obtain ⟨n0,n1,n2,n3,n4,n5,n6,n7,n8,n9⟩:=jU hcell'
 have hbw':b'<wb.heap.size:=by omega
 have hjz:(j:Int)<(f.keys.length:Int):=by have:=(Bp.1 hj).1;omega
 replace hN:∀ d os,Hid (Calls prog 91 #[.agg (aq p A1 A2 A3 A4 (some ⟨b,o,none⟩) A6 A7 c1 c2 c3 c4 c5 c6 c7),.int .i64 (-1),.agg (aO op lit head name hi0 lo Ae args.length ecap)] (Bl (redrawn wb d) os) _):=hN
 have hg:=ax hb0 hb0.size
 show Calls _ _ _ _ fun r w'=>r=.returned (.int .i64 (cZ p (-1) (.mk op lit head name hi0 lo args)))∧_
 generalize cZ p (-1) (.mk op lit head name hi0 lo args)=zz at hN ⊢
 replace hP2:=aa hP2
 clear hb0 hcell hcell' hi hj eg he hs
 go_enter func32,ntmps32
 go_wp2_with fail
 refine cD ?_
 repeat (any_goals (first|go_big_quiet_step (first|(go_at_call 91;with_reducible exact Bh (hN _ _).out)|fail)|quiet_step (first|(go_at_call 91;with_reducible exact Bh (hN _ _).out)|fail)))
 refine wpQuiet_nil ?_
 intro w1 hw1
 replace hw1:=ac hw1
 go_wp2
 go_ret
 exact ⟨rfl,hwC.out.trans (hw1.mono (by omega))⟩
theorem nJ (A1 A2 A3 A4 A5 A6 A7:Option Addr) (p:Pg) (c1 c2 c3 c4 c5 c6 c7:Nat) (B i:Nat) (f:Ta) (s0 s1 s2 s3 s4 s5 s6 s7 s8 s9 s10 s11 s12 s13:Value) (w:World) (hB:B≤w.heap.size) (hP:bu w B A1 A2 A3 A4 A5 A6 A7 p) (hi:p.tables[i]? =some f):
  Calls prog 32 #[.agg (aq p A1 A2 A3 A4 A5 A6 A7 c1 c2 c3 c4 c5 c6 c7),.agg #[.int .u8 14,.int .i64 (i:Int),.int .i64 0,s0,s1,s2,s3,s4,s5,s6,s7,s8,s9,s10,s11,s12,s13]] w fun r w'=>r=.returned (.int .i64 (eP p f))∧Below w.heap.size w w':=by
 unfold aq
 obtain ⟨wa,hwa,hsa,wb,hwb,hsb,hw,hqz,hcb⟩:=ic w (aq p A1 A2 A3 A4 A5 A6 A7 c1 c2 c3 c4 c5 c6 c7) 30 #[.int .u8 14,.int .i64 (i:Int),.int .i64 0,s0,s1,s2,s3,s4,s5,s6,s7,s8,s9,s10,s11,s12,s13] 49
 obtain ⟨z0,z1,z2,z3,z4,z5,z6⟩:=aF (w:=wb) (a:=w.heap.size) fun i=>hqz i
 obtain ⟨y0,y1,y2,y3,y4,y5,y6,y7,y8,y9,y10,y11,y12,y13,y14,y15,y16⟩:=bv hcb
 have hl1:w.heap.size<wb.heap.size:=by omega
 have hl2:w.heap.size+1<wb.heap.size:=by omega
 have hz2:w.heap.size+2≤wb.heap.size:=by omega
 have hBb:B≤wb.heap.size:=by omega
 have hP2:=hP.below (hw.mono hB)
 have hb0:Below wb.heap.size wb wb:=Bi _ _
 have hwC:=aa hw
 replace hsb:=aa hsb
 have eg:=ba
 clear hP hqz hcb
 have lst:=hP2.tables.len
 obtain ⟨b,o,ecs,hA,hb,hel,hcell,B1,d1,B2,d2,B3,d3,rfl,hn,hd,hF,hG,hH⟩:=hP2.tables.2 i _ hi
 subst hA
 obtain ⟨x0,x1,x2,x3,x4⟩:=cN hcell
 have hbw:b<wb.heap.size:=by omega
 have hiz:(i:Int)<(p.tables.length:Int):=by have:=(Bp.1 hi).1;omega
 have hlf:=hF.len
 have hlg:=hG.len
 have hlh:=hH.len
 have hX:∀ d os,Hid (Calls prog 93 #[.agg (aq p A1 A2 A3 A4 (some ⟨b,o,none⟩) A6 A7 c1 c2 c3 c4 c5 c6 c7),.agg #[.string f.name,.slice B1 f.keys.length d1,.slice B2 f.actions.length d2,.string f.dname,.slice B3 f.dargs.length d3]] (Bl (redrawn wb d) os) _):=fun d os=>aa (uP A1 A2 A3 A4 (some ⟨b,o,none⟩) A6 A7 p c1 c2 c3 c4 c5 c6 c7 B f B1 B2 B3 d1 d2 d3 _ (hP2.grown hBb d os).1 (hP2.grown hBb d os).2 hF.1 (hG.below aW ((below_regrown wb d os).mono hBb)) hH.1)
 have hg:=ax hb0 hb0.size
 generalize eP p f=zz at hX ⊢
 replace hP2:=aa hP2
 clear hb0 hcell hi eg hF hG hH
 go_enter func32,ntmps32
 go_wp2_with fail
 refine cD ?_
 repeat (any_goals (first|go_big_quiet_step (first|(go_at_call 93;with_reducible exact Bh (hX _ _).out)|fail)|quiet_step (first|(go_at_call 93;with_reducible exact Bh (hX _ _).out)|fail)))
 refine wpQuiet_nil ?_
 intro w1 hw1
 replace hw1:=ac hw1
 go_wp2
 go_ret
 exact ⟨rfl,hwC.out.trans (hw1.mono (by omega))⟩
theorem oK (A:Option Addr) (cap:Nat) (xs:List ByteArray) (n:ByteArray) (w:World) (h:Sl 1 iy w w.heap.size A xs):
  Calls prog 92 #[.slice A xs.length cap,.string n] w fun e w'=>e=.returned (.int .i64 (bb xs n))∧Below w.heap.size w w':=
 (kU A cap xs n w h).mono fun _ _ ⟨h1,h2⟩=>⟨h1,h2 ▸ Bi _ _⟩
theorem Sl.grownS {α:Type} {R:CR α} {k:Nat} {w:World} {B:Nat} {A:Option Addr} {xs:List α} (sR:dM R) (h:Sl k R w B A xs) (hB:B≤w.heap.size) (d:Nat) (os:Array Obj):
  Sl k R (Bl (redrawn w d) os) (Bl (redrawn w d) os).heap.size A xs:=
 (h.below sR ((below_regrown w d os).mono hB)).more sR (Bj hB (cH w d os))
theorem pN (A1 A2 A3 A4 A5 A6 A7:Option Addr) (p:Pg) (c1 c2 c3 c4 c5 c6 c7:Nat) (B i:Nat) (j:Nat) (f:Ta) (g:ByteArray) (s0 s1 s2 s3 s4 s5 s6 s7 s8 s9 s10 s11 s12 s13:Value) (w:World) (hB:B≤w.heap.size) (hP:bu w B A1 A2 A3 A4 A5 A6 A7 p) (hi:p.tables[i]? =some f) (hj:f.actions[j]? =some g):
  Calls prog 32 #[.agg (aq p A1 A2 A3 A4 A5 A6 A7 c1 c2 c3 c4 c5 c6 c7),.agg #[.int .u8 13,.int .i64 (i:Int),.int .i64 (j:Int),s0,s1,s2,s3,s4,s5,s6,s7,s8,s9,s10,s11,s12,s13]] w fun r w'=>r=.returned (.int .i64 (aQ (cF (decide (bz p g<0)) 7) (cF (decide (bb f.actions g<(j:Int))) 8)))∧Below w.heap.size w w':=by
 unfold aq
 obtain ⟨wa,hwa,hsa,wb,hwb,hsb,hw,hqz,hcb⟩:=ic w (aq p A1 A2 A3 A4 A5 A6 A7 c1 c2 c3 c4 c5 c6 c7) 30 #[.int .u8 13,.int .i64 (i:Int),.int .i64 (j:Int),s0,s1,s2,s3,s4,s5,s6,s7,s8,s9,s10,s11,s12,s13] 49
 obtain ⟨z0,z1,z2,z3,z4,z5,z6⟩:=aF (w:=wb) (a:=w.heap.size) fun i=>hqz i
 obtain ⟨y0,y1,y2,y3,y4,y5,y6,y7,y8,y9,y10,y11,y12,y13,y14,y15,y16⟩:=bv hcb
 have hl1:w.heap.size<wb.heap.size:=by omega
 have hl2:w.heap.size+1<wb.heap.size:=by omega
 have hz2:w.heap.size+2≤wb.heap.size:=by omega
 have hBb:B≤wb.heap.size:=by omega
 have hP2:=hP.below (hw.mono hB)
 have hb0:Below wb.heap.size wb wb:=Bi _ _
 have hwC:=aa hw
 replace hsb:=aa hsb
 have eg:=ba
 clear hP hqz hcb
 have lst:=hP2.tables.len
 obtain ⟨b,o,ecs,hA,hb,hel,hcell,B1,d1,B2,d2,B3,d3,rfl,hn,hd,hF,hG,hH⟩:=hP2.tables.2 i _ hi
 subst hA
 obtain ⟨x0,x1,x2,x3,x4⟩:=cN hcell
 have hbw:b<wb.heap.size:=by omega
 have hiz:(i:Int)<(p.tables.length:Int):=by have:=(Bp.1 hi).1;omega
 have hlf:=hF.len
 have hlg:=hG.len
 have hlh:=hH.len
 have hjl:=(Bp.1 hj).1
 obtain ⟨b',o',u,hA',hb',hcell',hr,hz⟩:=hG.at1 hjl
 subst hA'
 cases hr
 rw [(Bp.1 hj).2] at hcell' hz
 have hbw':b'<wb.heap.size:=by omega
 have hjz:(j:Int)<(f.actions.length:Int):=by omega
 have hg:=ax hb0 hb0.size
 go_enter func32,ntmps32
 replace hP2:=aa hP2
 replace hG:=aa hG
 clear hcell hi hj eg hF hH
 go_wp2_with fail
 refine cD ?_
 repeat (any_goals (first|go_big_quiet_step (fail)|quiet_step (fail)))
 refine wpQuiet_nil ?_
 intro w1 hw1
 replace hw1:=ac hw1
 clear hg
 have hc1:=ab hw1
 have hB1:B≤w1.heap.size:=by have:=hw1.size;omega
 have hP1:=hP2.out.below (hw1.mono hBb)
 have hG1:=hG.out.below aW (hw1.mono hBb)
 have hg:=ax hw1 hw1.size
 have hI:∀ b n d os,Hid (Calls prog 80 #[.bool b,.int .i64 n] (Bl (redrawn w1 d) os) _):=fun b n d os=>aa (pp b n _)
 have hE:∀ x y d os,Hid (Calls prog 82 #[.int .i64 x,.int .i64 y] (Bl (redrawn w1 d) os) _):=fun x y d os=>aa (fH x y _)
 have hX:∀ d os,Hid (Calls prog 38 #[.agg (aq p A1 A2 A3 A4 (some ⟨b,o,none⟩) A6 A7 c1 c2 c3 c4 c5 c6 c7),.string g] (Bl (redrawn w1 d) os) _):=fun d os=>aa (gc _ A1 A2 A3 A4 (some ⟨b,o,none⟩) A6 A7 p c1 c2 c3 c4 c5 c6 c7 g (hP1.grown hB1 d os).1 (hP1.grown hB1 d os).2)
 have hS:∀ d os,Hid (Calls prog 92 #[.slice (some ⟨b',o',none⟩) f.actions.length d2,.string g] (Bl (redrawn w1 d) os) _):=fun d os=>aa (oK _ d2 f.actions g _ (hG1.grownS aW hB1 d os))
 generalize hzz:bz p g=zz at hX
 generalize hzf:bb f.actions g=zf at hS
 replace hzz:=aa hzz
 replace hzf:=aa hzf
 replace hP1:=aa hP1
 replace hG1:=aa hG1
 replace hw1:=aa hw1
 clear hb0
 go_wp2_with fail
 refine cD ?_
 repeat (any_goals (first|go_big_quiet_step (first|(go_at_call 80;with_reducible exact Bh (hI _ _ _ _).out)|(go_at_call 82;with_reducible exact Bh (hE _ _ _ _).out)|(go_at_call 38;with_reducible exact Bh (hX _ _).out)|(go_at_call 92;with_reducible exact Bh (hS _ _).out))|quiet_step (first|(go_at_call 80;with_reducible exact Bh (hI _ _ _ _).out)|(go_at_call 82;with_reducible exact Bh (hE _ _ _ _).out)|(go_at_call 38;with_reducible exact Bh (hX _ _).out)|(go_at_call 92;with_reducible exact Bh (hS _ _).out))))
 refine wpQuiet_nil ?_
 intro w2 hw2
 replace hw2:=ac hw2
 go_wp2
 go_ret
 exact ⟨ag (by rw [hzz.out,hzf.out]),(hwC.out.trans (hw1.out.mono (by omega))).trans (hw2.mono (by have:=hw1.out.size;omega))⟩
theorem ta (A1 A2 A3 A4 A5 A6 A7:Option Addr) (p:Pg) (c1 c2 c3 c4 c5 c6 c7:Nat) (B i:Nat) (g:ByteArray) (s0 s1 s2 s3 s4 s5 s6 s7 s8 s9 s10 s11 s12 s13:Value) (w:World) (hB:B≤w.heap.size) (hP:bu w B A1 A2 A3 A4 A5 A6 A7 p) (hi:p.emit[i]? =some g):
  Calls prog 32 #[.agg (aq p A1 A2 A3 A4 A5 A6 A7 c1 c2 c3 c4 c5 c6 c7),.agg #[.int .u8 15,.int .i64 (i:Int),.int .i64 0,s0,s1,s2,s3,s4,s5,s6,s7,s8,s9,s10,s11,s12,s13]] w fun r w'=>r=.returned (.int .i64 (aQ (cF (decide (ap p g<0)) 7) (cF (decide (bb p.emit g<(i:Int))) 8)))∧Below w.heap.size w w':=by
 unfold aq
 obtain ⟨wa,hwa,hsa,wb,hwb,hsb,hw,hqz,hcb⟩:=ic w (aq p A1 A2 A3 A4 A5 A6 A7 c1 c2 c3 c4 c5 c6 c7) 30 #[.int .u8 15,.int .i64 (i:Int),.int .i64 0,s0,s1,s2,s3,s4,s5,s6,s7,s8,s9,s10,s11,s12,s13] 49
 obtain ⟨z0,z1,z2,z3,z4,z5,z6⟩:=aF (w:=wb) (a:=w.heap.size) fun i=>hqz i
 obtain ⟨y0,y1,y2,y3,y4,y5,y6,y7,y8,y9,y10,y11,y12,y13,y14,y15,y16⟩:=bv hcb
 have hl1:w.heap.size<wb.heap.size:=by omega
 have hl2:w.heap.size+1<wb.heap.size:=by omega
 have hz2:w.heap.size+2≤wb.heap.size:=by omega
 have hBb:B≤wb.heap.size:=by omega
 have hP2:=hP.below (hw.mono hB)
 have hb0:Below wb.heap.size wb wb:=Bi _ _
 have hwC:=aa hw
 replace hsb:=aa hsb
 have eg:=ba
 clear hP hqz hcb
 have lst:=hP2.emit.len
 have hil:=(Bp.1 hi).1
 obtain ⟨b,o,u,hA,hb,hcell,hr,hz⟩:=hP2.emit.at1 hil
 subst hA
 cases hr
 rw [(Bp.1 hi).2] at hcell hz
 have hbw:b<wb.heap.size:=by omega
 have hiz:(i:Int)<(p.emit.length:Int):=by omega
 have hg:=ax hb0 hb0.size
 have hI:∀ b n d os,Hid (Calls prog 80 #[.bool b,.int .i64 n] (Bl (redrawn wb d) os) _):=fun b n d os=>aa (pp b n _)
 have hE:∀ x y d os,Hid (Calls prog 82 #[.int .i64 x,.int .i64 y] (Bl (redrawn wb d) os) _):=fun x y d os=>aa (fH x y _)
 have hX:∀ d os,Hid (Calls prog 83 #[.agg (aq p A1 A2 A3 A4 A5 A6 (some ⟨b,o,none⟩) c1 c2 c3 c4 c5 c6 c7),.string g] (Bl (redrawn wb d) os) _):=fun d os=>aa (cK _ A1 A2 A3 A4 A5 A6 (some ⟨b,o,none⟩) p c1 c2 c3 c4 c5 c6 c7 g (hP2.grown hBb d os).1 (hP2.grown hBb d os).2)
 have hS:∀ d os,Hid (Calls prog 92 #[.slice (some ⟨b,o,none⟩) p.emit.length c7,.string g] (Bl (redrawn wb d) os) _):=fun d os=>aa (oK _ c7 p.emit g _ (hP2.emit.grownS aW hBb d os))
 generalize ap p g=zz at hX ⊢
 generalize bb p.emit g=zf at hS ⊢
 replace hP2:=aa hP2
 clear hb0 hi eg
 go_enter func32,ntmps32
 go_wp2_with fail
 refine cD ?_
 repeat (any_goals (first|go_big_quiet_step (first|(go_at_call 80;with_reducible exact Bh (hI _ _ _ _).out)|(go_at_call 82;with_reducible exact Bh (hE _ _ _ _).out)|(go_at_call 83;with_reducible exact Bh (hX _ _).out)|(go_at_call 92;with_reducible exact Bh (hS _ _).out))|quiet_step (first|(go_at_call 80;with_reducible exact Bh (hI _ _ _ _).out)|(go_at_call 82;with_reducible exact Bh (hE _ _ _ _).out)|(go_at_call 83;with_reducible exact Bh (hX _ _).out)|(go_at_call 92;with_reducible exact Bh (hS _ _).out))))
 refine wpQuiet_nil ?_
 intro w1 hw1
 replace hw1:=ac hw1
 go_wp2
 go_ret
 exact ⟨rfl,hwC.out.trans (hw1.mono (by omega))⟩
def oL:CR It:=fun w B cs x=>∃ scs,cs=.int .u8 x.kind:: .int .i64 x.a:: .int .i64 x.b::scs∧dR w B scs x.s
theorem dJ:dM oL:=⟨fun ⟨scs,e,h⟩ hk=>⟨scs,e,be.keep h hk⟩,fun ⟨scs,e,h⟩ hB=>⟨scs,e,be.more h hB⟩⟩
theorem aI {w:World} {B:Nat} {cs:List Value} {s:St} (h:dR w B cs s):∃ s0 s1 s2 s3 s4 s5 s6 s7 s8 s9 s10 s11 s12 s13,cs= [s0,s1,s2,s3,s4,s5,s6,s7,s8,s9,s10,s11,s12,s13]:=by
 obtain ⟨kind,head,name,e,thn,els⟩:=s
 obtain ⟨es,A,cap,A',cap',rfl,-,-,-,he,hT,hE⟩:=RS.inv h
 obtain ⟨op,lit,ehead,ename,hi,lo,args⟩:=e
 obtain ⟨Ae,ecap,rfl,-⟩:=RE.inv he
 exact ⟨_,_,_,_,_,_,_,_,_,_,_,_,_,_,rfl⟩
theorem rt (a:Int) (s:St):∀ x∈cO a s,∃ st,x=⟨10,a,0,st⟩:=by
 induction s using St.ind with
 |h kind head name e thn els ih1 ih2=>
  have g:∀ l:List St,(∀ y∈l,∀ x∈cO a y,∃ st,x=⟨10,a,0,st⟩)→∀ x∈am a l,∃ st,x=(⟨10,a,0,st⟩:It):=by
   intro l h x hx
   rw [cf,List.mem_flatMap] at hx
   obtain ⟨y,hy,hx⟩:=hx
   exact h y hy x hx
  intro x hx
  simp only [cO,BI,BL] at hx
  rcases hx with rfl|hx|hx
  ·exact ⟨_,rfl⟩
  ·exact g thn ih1 x hx
  ·exact g els ih2 x hx
theorem iZ (a:Int) (l:List St):∀ x∈am a l,∃ st,x=⟨10,a,0,st⟩:=by
 intro x hx
 rw [cf,List.mem_flatMap] at hx
 obtain ⟨y,hy,hx⟩:=hx
 exact rt a y x hx
theorem cq {α:Type} {kind:Int} {l:List α} {g:Nat→α→List It} {x:It} (h:x∈aX kind l g):∃ (i:Nat) (a:α),l[i]? =some a∧(x=⟨kind,(i:Int),0,de⟩∨x∈g i a):=by
 obtain ⟨⟨a,i⟩,hm,hx⟩:=List.mem_flatMap.1 h
 rw [List.mem_zipIdx_iff_getElem?] at hm
 rcases BI.1 hx with hx|hx
 ·exact ⟨i,a,hm,.inl hx⟩
 ·exact ⟨i,a,hm,.inr hx⟩
theorem bM {kind:Int} {a n:Nat} {x:It} (h:x∈aR kind a n):∃ j:Nat,j<n∧x=⟨kind,(a:Int),(j:Int),de⟩:=by
 obtain ⟨j,hj,rfl⟩:=List.mem_map.1 h
 exact ⟨j,List.mem_range.1 hj,rfl⟩
theorem i9 {p:Pg} {P:It→Prop}
  (h1:∀ (i:Nat) (f:Hd),p.headers[i]? =some f→P ⟨1,i,0,de⟩)
  (h2:∀ (i j:Nat) (f:Hd) (g:Fd),p.headers[i]? =some f→f.fields[j]? =some g→P ⟨2,i,j,de⟩)
  (h3:∀ (i:Nat) (f:Fd),p.metas[i]? =some f→P ⟨3,i,0,de⟩)
  (h4:∀ (i:Nat) (f:Sa),p.states[i]? =some f→P ⟨4,i,0,de⟩)
  (h5:∀ (i j:Nat) (f:Sa) (g:ByteArray),p.states[i]? =some f→f.takes[j]? =some g→P ⟨5,i,j,de⟩)
  (h6:∀ (i:Nat) (f:Sa),p.states[i]? =some f→P ⟨6,i,0,de⟩)
  (h7:∀ (i j:Nat) (f:Sa) (g:Ca),p.states[i]? =some f→f.cases_[j]? =some g→P ⟨7,i,j,de⟩)
  (h8:∀ (i:Nat) (f:Ac),p.actions[i]? =some f→P ⟨8,i,0,de⟩)
  (h9:∀ (i j:Nat) (f:Ac) (g:Fd),p.actions[i]? =some f→f.params[j]? =some g→P ⟨9,i,j,de⟩)
  (h10:∀ (a:Int) (st:St),P ⟨10,a,0,st⟩)
  (h11:∀ (i:Nat) (f:Ta),p.tables[i]? =some f→P ⟨11,i,0,de⟩)
  (h12:∀ (i j:Nat) (f:Ta) (g:Ky),p.tables[i]? =some f→f.keys[j]? =some g→P ⟨12,i,j,de⟩)
  (h13:∀ (i j:Nat) (f:Ta) (g:ByteArray),p.tables[i]? =some f→f.actions[j]? =some g→P ⟨13,i,j,de⟩)
  (h14:∀ (i:Nat) (f:Ta),p.tables[i]? =some f→P ⟨14,i,0,de⟩)
  (h15:∀ (i:Nat) (g:ByteArray),p.emit[i]? =some g→P ⟨15,i,0,de⟩):∀ x∈ao p,P x:=by
 have G:∀ {α:Type} {l:List α} {j:Nat},j<l.length→∃ a,l[j]? =some a:=fun h=>⟨_,Bk h⟩
 intro x hx
 simp only [ao,aC,aG,aE,bD,bW,cP,BL] at hx
 rcases hx with hx|hx|hx|hx|hx|hx|hx
 ·obtain ⟨i,f,hi,rfl|hx⟩:=cq hx
  ·exact h1 i f hi
  ·obtain ⟨j,hj,rfl⟩:=bM hx
   obtain ⟨g,hg⟩:=G hj
   exact h2 i j f g hi hg
 ·obtain ⟨i,f,hi,rfl|hx⟩:=cq hx
  ·exact h3 i f hi
  ·simp at hx
 ·obtain ⟨i,f,hi,rfl|hx⟩:=cq hx
  ·exact h4 i f hi
  ·rw [BL,BI] at hx
   rcases hx with hx|rfl|hx
   ·obtain ⟨j,hj,rfl⟩:=bM hx
    obtain ⟨g,hg⟩:=G hj
    exact h5 i j f g hi hg
   ·exact h6 i f hi
   ·obtain ⟨j,hj,rfl⟩:=bM hx
    obtain ⟨g,hg⟩:=G hj
    exact h7 i j f g hi hg
 ·obtain ⟨i,f,hi,rfl|hx⟩:=cq hx
  ·exact h8 i f hi
  ·rcases BL.1 hx with hx|hx
   ·obtain ⟨j,hj,rfl⟩:=bM hx
    obtain ⟨g,hg⟩:=G hj
    exact h9 i j f g hi hg
   ·obtain ⟨st,rfl⟩:=iZ _ _ x hx
    exact h10 _ st
 ·obtain ⟨i,f,hi,rfl|hx⟩:=cq hx
  ·exact h11 i f hi
  ·rw [BL,BL,List.mem_singleton] at hx
   rcases hx with hx|hx|rfl
   ·obtain ⟨j,hj,rfl⟩:=bM hx
    obtain ⟨g,hg⟩:=G hj
    exact h12 i j f g hi hg
   ·obtain ⟨j,hj,rfl⟩:=bM hx
    obtain ⟨g,hg⟩:=G hj
    exact h13 i j f g hi hg
   ·exact h14 i f hi
 ·obtain ⟨st,rfl⟩:=iZ _ _ x hx
  exact h10 _ st
 ·obtain ⟨i,f,hi,rfl|hx⟩:=cq hx
  ·exact h15 i f hi
  ·simp at hx
theorem vx (A1 A2 A3 A4 A5 A6 A7:Option Addr) (p:Pg) (c1 c2 c3 c4 c5 c6 c7:Nat) (B:Nat) (hm:bg p=true):∀ x∈ao p,∀ (cs:List Value) (w:World),B≤w.heap.size→bu w B A1 A2 A3 A4 A5 A6 A7 p→oL w B cs x→
  Calls prog 32 #[.agg (aq p A1 A2 A3 A4 A5 A6 A7 c1 c2 c3 c4 c5 c6 c7),.agg cs.toArray] w fun r w'=>r=.returned (.int .i64 (aH p x))∧Below w.heap.size w w':=by
 unfold aq
 have hh:∀ (i:Nat) (f:Hd),p.headers[i]? =some f→iJ f=true:=fun i f hi=>by
  simp only [bg,Bn] at hm
  exact Bw.1 hm.1.1.1.1.1.1.2 f (BQ hi)
 refine i9 ?_ ?_ ?_ ?_ ?_ ?_ ?_ ?_ ?_ ?_ ?_ ?_ ?_ ?_ ?_
 ·rintro i f hi cs w hB hP ⟨scs,rfl,hs⟩
  obtain ⟨s0,s1,s2,s3,s4,s5,s6,s7,s8,s9,s10,s11,s12,s13,rfl⟩:=aI hs
  refine (pM A1 A2 A3 A4 A5 A6 A7 p c1 c2 c3 c4 c5 c6 c7 B i f s0 s1 s2 s3 s4 s5 s6 s7 s8 s9 s10 s11 s12 s13 w hB hP (hh i f hi) hi).mono ?_
  rintro e w' ⟨rfl,hb⟩
  exact ⟨ag (by simp [aH,hi]),hb⟩
 ·rintro i j f g hi hj cs w hB hP ⟨scs,rfl,hs⟩
  obtain ⟨s0,s1,s2,s3,s4,s5,s6,s7,s8,s9,s10,s11,s12,s13,rfl⟩:=aI hs
  refine (ro A1 A2 A3 A4 A5 A6 A7 p c1 c2 c3 c4 c5 c6 c7 B i j f g s0 s1 s2 s3 s4 s5 s6 s7 s8 s9 s10 s11 s12 s13 w hB hP hi hj).mono ?_
  rintro e w' ⟨rfl,hb⟩
  exact ⟨ag (by simp [aH,hi,hj]),hb⟩
 ·rintro i f hi cs w hB hP ⟨scs,rfl,hs⟩
  obtain ⟨s0,s1,s2,s3,s4,s5,s6,s7,s8,s9,s10,s11,s12,s13,rfl⟩:=aI hs
  refine (sV A1 A2 A3 A4 A5 A6 A7 p c1 c2 c3 c4 c5 c6 c7 B i f s0 s1 s2 s3 s4 s5 s6 s7 s8 s9 s10 s11 s12 s13 w hB hP hi).mono ?_
  rintro e w' ⟨rfl,hb⟩
  exact ⟨ag (by simp [aH,hi]),hb⟩
 ·rintro i f hi cs w hB hP ⟨scs,rfl,hs⟩
  obtain ⟨s0,s1,s2,s3,s4,s5,s6,s7,s8,s9,s10,s11,s12,s13,rfl⟩:=aI hs
  refine (rq A1 A2 A3 A4 A5 A6 A7 p c1 c2 c3 c4 c5 c6 c7 B i f s0 s1 s2 s3 s4 s5 s6 s7 s8 s9 s10 s11 s12 s13 w hB hP hi).mono ?_
  rintro e w' ⟨rfl,hb⟩
  exact ⟨ag (by simp [aH,hi]),hb⟩
 ·rintro i j f g hi hj cs w hB hP ⟨scs,rfl,hs⟩
  obtain ⟨s0,s1,s2,s3,s4,s5,s6,s7,s8,s9,s10,s11,s12,s13,rfl⟩:=aI hs
  refine (sW A1 A2 A3 A4 A5 A6 A7 p c1 c2 c3 c4 c5 c6 c7 B i f j g s0 s1 s2 s3 s4 s5 s6 s7 s8 s9 s10 s11 s12 s13 w hB hP hi hj).mono ?_
  rintro e w' ⟨rfl,hb⟩
  exact ⟨ag (by simp [aH,hi,hj]),hb⟩
 ·rintro i f hi cs w hB hP ⟨scs,rfl,hs⟩
  obtain ⟨s0,s1,s2,s3,s4,s5,s6,s7,s8,s9,s10,s11,s12,s13,rfl⟩:=aI hs
  refine (sX A1 A2 A3 A4 A5 A6 A7 p c1 c2 c3 c4 c5 c6 c7 B i f 0 s0 s1 s2 s3 s4 s5 s6 s7 s8 s9 s10 s11 s12 s13 w hB hP hi).mono ?_
  rintro e w' ⟨rfl,hb⟩
  exact ⟨ag (by simp [aH,hi]),hb⟩
 ·rintro i j f g hi hj cs w hB hP ⟨scs,rfl,hs⟩
  obtain ⟨s0,s1,s2,s3,s4,s5,s6,s7,s8,s9,s10,s11,s12,s13,rfl⟩:=aI hs
  refine (sY A1 A2 A3 A4 A5 A6 A7 p c1 c2 c3 c4 c5 c6 c7 B i f j g s0 s1 s2 s3 s4 s5 s6 s7 s8 s9 s10 s11 s12 s13 w hB hP hi hj).mono ?_
  rintro e w' ⟨rfl,hb⟩
  exact ⟨ag (by simp [aH,hi,hj]),hb⟩
 ·rintro i f hi cs w hB hP ⟨scs,rfl,hs⟩
  obtain ⟨s0,s1,s2,s3,s4,s5,s6,s7,s8,s9,s10,s11,s12,s13,rfl⟩:=aI hs
  refine (pL A1 A2 A3 A4 A5 A6 A7 p c1 c2 c3 c4 c5 c6 c7 B i f s0 s1 s2 s3 s4 s5 s6 s7 s8 s9 s10 s11 s12 s13 w hB hP hi).mono ?_
  rintro e w' ⟨rfl,hb⟩
  exact ⟨ag (by simp [aH,hi]),hb⟩
 ·rintro i j f g hi hj cs w hB hP ⟨scs,rfl,hs⟩
  obtain ⟨s0,s1,s2,s3,s4,s5,s6,s7,s8,s9,s10,s11,s12,s13,rfl⟩:=aI hs
  refine (rp A1 A2 A3 A4 A5 A6 A7 p c1 c2 c3 c4 c5 c6 c7 B i j f g s0 s1 s2 s3 s4 s5 s6 s7 s8 s9 s10 s11 s12 s13 w hB hP hi hj).mono ?_
  rintro e w' ⟨rfl,hb⟩
  exact ⟨ag (by simp [aH,hi,hj]),hb⟩
 ·rintro a st cs w hB hP ⟨scs,rfl,hs⟩
  obtain ⟨s0,s1,s2,s3,s4,s5,s6,s7,s8,s9,s10,s11,s12,s13,rfl⟩:=aI hs
  refine (sZ A1 A2 A3 A4 A5 A6 A7 p c1 c2 c3 c4 c5 c6 c7 B a st s0 s1 s2 s3 s4 s5 s6 s7 s8 s9 s10 s11 s12 s13 w hB hP hs).mono ?_
  rintro e w' ⟨rfl,hb⟩
  exact ⟨ag (by simp [aH]),hb⟩
 ·rintro i f hi cs w hB hP ⟨scs,rfl,hs⟩
  obtain ⟨s0,s1,s2,s3,s4,s5,s6,s7,s8,s9,s10,s11,s12,s13,rfl⟩:=aI hs
  refine (rl A1 A2 A3 A4 A5 A6 A7 p c1 c2 c3 c4 c5 c6 c7 B i f s0 s1 s2 s3 s4 s5 s6 s7 s8 s9 s10 s11 s12 s13 w hB hP hi).mono ?_
  rintro e w' ⟨rfl,hb⟩
  exact ⟨ag (by simp [aH,hi]),hb⟩
 ·rintro i j f g hi hj cs w hB hP ⟨scs,rfl,hs⟩
  obtain ⟨s0,s1,s2,s3,s4,s5,s6,s7,s8,s9,s10,s11,s12,s13,rfl⟩:=aI hs
  refine (vw A1 A2 A3 A4 A5 A6 A7 p c1 c2 c3 c4 c5 c6 c7 B i j f g s0 s1 s2 s3 s4 s5 s6 s7 s8 s9 s10 s11 s12 s13 w hB hP hi hj).mono ?_
  rintro e w' ⟨rfl,hb⟩
  exact ⟨ag (by simp [aH,hi,hj]),hb⟩
 ·rintro i j f g hi hj cs w hB hP ⟨scs,rfl,hs⟩
  obtain ⟨s0,s1,s2,s3,s4,s5,s6,s7,s8,s9,s10,s11,s12,s13,rfl⟩:=aI hs
  refine (pN A1 A2 A3 A4 A5 A6 A7 p c1 c2 c3 c4 c5 c6 c7 B i j f g s0 s1 s2 s3 s4 s5 s6 s7 s8 s9 s10 s11 s12 s13 w hB hP hi hj).mono ?_
  rintro e w' ⟨rfl,hb⟩
  exact ⟨ag (by simp [aH,hi,hj]),hb⟩
 ·rintro i f hi cs w hB hP ⟨scs,rfl,hs⟩
  obtain ⟨s0,s1,s2,s3,s4,s5,s6,s7,s8,s9,s10,s11,s12,s13,rfl⟩:=aI hs
  refine (nJ A1 A2 A3 A4 A5 A6 A7 p c1 c2 c3 c4 c5 c6 c7 B i f s0 s1 s2 s3 s4 s5 s6 s7 s8 s9 s10 s11 s12 s13 w hB hP hi).mono ?_
  rintro e w' ⟨rfl,hb⟩
  exact ⟨ag (by simp [aH,hi]),hb⟩
 ·rintro i g hi cs w hB hP ⟨scs,rfl,hs⟩
  obtain ⟨s0,s1,s2,s3,s4,s5,s6,s7,s8,s9,s10,s11,s12,s13,rfl⟩:=aI hs
  refine (ta A1 A2 A3 A4 A5 A6 A7 p c1 c2 c3 c4 c5 c6 c7 B i g s0 s1 s2 s3 s4 s5 s6 s7 s8 s9 s10 s11 s12 s13 w hB hP hi).mono ?_
  rintro e w' ⟨rfl,hb⟩
  exact ⟨ag (by simp [aH,hi]),hb⟩
end Go.Proofs.YtbbdhknagofghaaGreat

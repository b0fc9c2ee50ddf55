import Derived.Test.YtbbdhknagofghaaGreatTcp34
set_option linter.all false
set_option maxHeartbeats 16000000
set_option maxRecDepth 100000
open Go.Proofs.Tryz
namespace Go.Proofs.YtbbdhknagofghaaGreat
open _root_.Nat renaming lt_of_lt_of_le→Bg, le_refl→Bm
open _root_.Go.Calls renaming regrown_of→Bh
open _root_.Go.RowKit.Below renaming refl→Bi
open _root_.List renaming getElem?_eq_getElem→Bk, getElem?_eq_some_iff→Bp, getElem_mem→Bv
open _root_.Go.Sort renaming grow→Bl
open _root_.Int renaming toNat_natCast→BM
open Go.RowKit
theorem oW (l:List ByteArray) (A:Option Addr) (cap:Nat) (s:ByteArray) (w:World) {B:Nat} (h:Sl 1 iy w B A l):
  Calls prog 177 #[.slice A l.length cap,.string s] w fun e w'=>e=.returned (.int .i64 (bb l s))∧Below w.heap.size w w':=
 (lx l A cap s w h).mono fun _ _ h=>⟨h.1,h.2 ▸ Bi _ _⟩
theorem nS (A1 A2 A3 A4 A5 A6 A7:Option Addr) (p:Pg) (c1 c2 c3 c4 c5 c6 c7:Nat) (B i:Nat) (nm:ByteArray) (s0 s1 s2 s3 s4 s5 s6 s7 s8 s9 s10 s11 s12 s13:Value) (w:World) (hB:B≤w.heap.size) (hP:bu w B A1 A2 A3 A4 A5 A6 A7 p) (hi:p.emit[i]? =some nm):
  Calls prog 109 #[.agg (aq p A1 A2 A3 A4 A5 A6 A7 c1 c2 c3 c4 c5 c6 c7),.agg #[.int .u8 15,.int .i64 (i:Int),.int .i64 0,s0,s1,s2,s3,s4,s5,s6,s7,s8,s9,s10,s11,s12,s13]] w fun r w'=>r=.returned (.int .i64 (aQ (cF (decide (ap p nm<0)) 7) (cF (decide (bb p.emit nm<(i:Int))) 8)))∧Below w.heap.size w w':=by
 unfold aq
 have hs:=Bp.1 hi
 obtain ⟨hlt,hst⟩:=hs
 obtain ⟨wa,hwa,hsa,wb,hwb,hsb,hw,hqz,hcb⟩:=ic w (aq p A1 A2 A3 A4 A5 A6 A7 c1 c2 c3 c4 c5 c6 c7) 30 #[.int .u8 15,.int .i64 (i:Int),.int .i64 0,s0,s1,s2,s3,s4,s5,s6,s7,s8,s9,s10,s11,s12,s13] 49
 obtain ⟨z0,z1,z2,z3,z4,z5,z6⟩:=aF (w:=wb) (a:=w.heap.size) fun i=>hqz i
 have y0:wb.cell? ⟨w.heap.size+1,0,none⟩=some (.int .u8 15):=hcb 0
 have y1:wb.cell? ⟨w.heap.size+1,1,none⟩=some (.int .i64 (i:Int)):=hcb 1
 have y2:wb.cell? ⟨w.heap.size+1,2,none⟩=some (.int .i64 0):=hcb 2
 have hl1:w.heap.size<wb.heap.size:=by omega
 have hl2:w.heap.size+1<wb.heap.size:=by omega
 have hz2:w.heap.size+2=wb.heap.size:=by omega
 have hBb:B≤wb.heap.size:=by omega
 have hP2:=hP.below (hw.mono hB)
 have lst:=hP2.emit.len
 obtain ⟨b,o,hA7,hb,hcell,hr⟩:=hP2.emit.str hlt
 subst hA7
 rw [hst] at hcell
 have hbw:b<wb.heap.size:=by omega
 have hiz:(i:Int)<(p.emit.length:Int):=by omega
 have hwC:=aa hw
 have hb0:Below wb.heap.size wb wb:=Bi _ _
 have hg:=ax hb0 (Bm _)
 have hX:∀ d os,Hid (Calls prog 115 #[.agg (aq p A1 A2 A3 A4 A5 A6 (some ⟨b,o,none⟩) c1 c2 c3 c4 c5 c6 c7),.string nm] (Bl (redrawn wb d) os) _):=fun d os=>aa (cC _ A1 A2 A3 A4 A5 A6 (some ⟨b,o,none⟩) p c1 c2 c3 c4 c5 c6 c7 nm (hP2.grown hBb d os).1 (hP2.grown hBb d os).2)
 have hI:∀ (W:World),Below wb.heap.size wb W→∀ d os,Hid (Calls prog 177 #[.slice (some ⟨b,o,none⟩) p.emit.length c7,.string nm] (Bl (redrawn W d) os) _):=fun W hb d os=>aa (oW p.emit (some ⟨b,o,none⟩) c7 nm _ (hP2.emit.below aW ((aA hb hb.size d os).mono hBb)))
 generalize ap p nm=zz at hX ⊢
 generalize bb p.emit nm=zi at hI ⊢
 replace hI:=aa hI
 clear hP hP2 hb0 hqz hcb hst hi hw
 replace hsb:=aa hsb
 replace hz2:=aa hz2
 go_enter func109,ntmps109
 by_cases hz:zz<0
 focus
  go_wp2_with fail
  refine cD ?_
  repeat (any_goals (first|go_big_quiet_step (first|(go_at_call 115;with_reducible exact Bh (hX _ _).out))|quiet_step (first|(go_at_call 115;with_reducible exact Bh (hX _ _).out))))
  refine wpQuiet_nil ?_
  intro w1 hw1
  replace hw1:=ac hw1
  go_wp2
  go_ret
  exact ⟨ag (by simp [cF,aQ,hz]),hwC.out.trans (hw1.mono (by omega))⟩
 rotate_right
 focus
  go_wp2_with fail
  refine cD ?_
  repeat (any_goals (first|go_big_quiet_step (first|(go_at_call 115;with_reducible exact Bh (hX _ _).out))|quiet_step (first|(go_at_call 115;with_reducible exact Bh (hX _ _).out))))
  refine wpQuiet_nil ?_
  intro w1 hw1
  replace hw1:=ac hw1
  have hI1:=hI.out w1 hw1
  have hg1:=ax hw1 hw1.size
  have hc1:=ab hw1
  have zz1:=hw1.size
  replace hw1:=aa hw1
  clear hg
  by_cases hzi:zi<(i:Int)
 all_goals
  go_wp2_with fail
  refine cD ?_
  repeat (any_goals (first|go_big_quiet_step (first|(go_at_call 177;with_reducible exact Bh (hI1 _ _).out))|quiet_step (first|(go_at_call 177;with_reducible exact Bh (hI1 _ _).out))))
  refine wpQuiet_nil ?_
  intro w2 hw2
  replace hw2:=ac hw2
  go_wp2
  go_ret
  exact ⟨ag (by simp [cF,aQ,hz,hzi]),(hwC.out.trans (hw1.out.mono (by omega))).trans (hw2.mono (by omega))⟩
theorem lQ (A1 A2 A3 A4 A5 A6 A7:Option Addr) (p:Pg) (c1 c2 c3 c4 c5 c6 c7:Nat) (B i:Nat) (j:Nat) (f:Ta) (nm:ByteArray) (s0 s1 s2 s3 s4 s5 s6 s7 s8 s9 s10 s11 s12 s13:Value) (w:World) (hB:B≤w.heap.size) (hP:bu w B A1 A2 A3 A4 A5 A6 A7 p) (hi:p.tables[i]? =some f) (hj:f.actions[j]? =some nm):
  Calls prog 109 #[.agg (aq p A1 A2 A3 A4 A5 A6 A7 c1 c2 c3 c4 c5 c6 c7),.agg #[.int .u8 13,.int .i64 (i:Int),.int .i64 (j:Int),s0,s1,s2,s3,s4,s5,s6,s7,s8,s9,s10,s11,s12,s13]] w fun r w'=>r=.returned (.int .i64 (aQ (cF (decide (bz p nm<0)) 7) (cF (decide (bb f.actions nm<(j:Int))) 8)))∧Below w.heap.size w w':=by
 unfold aq
 have hs:=Bp.1 hi
 obtain ⟨hlt,hst⟩:=hs
 obtain ⟨wa,hwa,hsa,wb,hwb,hsb,hw,hqz,hcb⟩:=ic w (aq p A1 A2 A3 A4 A5 A6 A7 c1 c2 c3 c4 c5 c6 c7) 30 #[.int .u8 13,.int .i64 (i:Int),.int .i64 (j:Int),s0,s1,s2,s3,s4,s5,s6,s7,s8,s9,s10,s11,s12,s13] 49
 obtain ⟨z0,z1,z2,z3,z4,z5,z6⟩:=aF (w:=wb) (a:=w.heap.size) fun i=>hqz i
 have y0:wb.cell? ⟨w.heap.size+1,0,none⟩=some (.int .u8 13):=hcb 0
 have y1:wb.cell? ⟨w.heap.size+1,1,none⟩=some (.int .i64 (i:Int)):=hcb 1
 have y2:wb.cell? ⟨w.heap.size+1,2,none⟩=some (.int .i64 (j:Int)):=hcb 2
 have hl1:w.heap.size<wb.heap.size:=by omega
 have hl2:w.heap.size+1<wb.heap.size:=by omega
 have hz2:w.heap.size+2=wb.heap.size:=by omega
 have hBb:B≤wb.heap.size:=by omega
 have hP2:=hP.below (hw.mono hB)
 have lst:=hP2.tables.len
 obtain ⟨b,o,ecs,hA3,hb,hel,hcell,B1,d1,B2,d2,B3,d3,rfl,hn,hd,hT,hK,hC⟩:=hP2.tables.2 i f hi
 subst hA3
 have m1:=hT.len
 have m2:=hK.len
 have m3:=hC.len
 obtain ⟨x0,x1,x2,x3,x4⟩:=cN hcell
 obtain ⟨wc,hwc,hsc,hbc,hcc,-⟩:=al wb #[.string f.name,.slice B1 f.keys.length d1,.slice B2 f.actions.length d2,.string f.dname,.slice B3 f.dargs.length d3] 58
 have hwC:=hw.trans (hbc.mono (by omega))
 have r1:∀ i,wc.cell? ⟨w.heap.size,i,none⟩=wb.cell? ⟨w.heap.size,i,none⟩:=fun i=>hbc.cell (p:=⟨w.heap.size,i,none⟩) (by show w.heap.size<_;omega)
 have r2:∀ i,wc.cell? ⟨w.heap.size+1,i,none⟩=wb.cell? ⟨w.heap.size+1,i,none⟩:=fun i=>hbc.cell (p:=⟨w.heap.size+1,i,none⟩) (by show w.heap.size+1<_;omega)
 have hcz:∀ i,wc.cell? ⟨w.heap.size,i,none⟩=(#[.slice A1 p.headers.length c1,.slice A2 p.metas.length c2,.slice A3 p.states.length c3,.slice A4 p.actions.length c4,.slice (some ⟨b,o,none⟩) p.tables.length c5,.slice A6 p.control.length c6,.slice A7 p.emit.length c7]:Array Value)[i]? :=fun i=>(r1 i).trans (hqz i)
 obtain ⟨f0,f1,f2,f3,f4,f5,f6⟩:=aF (w:=wc) (a:=w.heap.size) fun i=>hcz i
 have g0:wc.cell? ⟨w.heap.size+1,0,none⟩=some (.int .u8 13):=(r2 0).trans y0
 have g1:wc.cell? ⟨w.heap.size+1,1,none⟩=some (.int .i64 (i:Int)):=(r2 1).trans y1
 have g2:wc.cell? ⟨w.heap.size+1,2,none⟩=some (.int .i64 (j:Int)):=(r2 2).trans y2
 simp only [hsb,hsa] at hcc
 obtain ⟨v0,v1,v2,v3,v4⟩:=fR hcc
 have hk1:w.heap.size<wc.heap.size:=by omega
 have hk2:w.heap.size+1<wc.heap.size:=by omega
 have hk3:w.heap.size+1+1<wc.heap.size:=by omega
 have hBc:B≤wc.heap.size:=by omega
 have hbw:b<wc.heap.size:=by omega
 have hiz:(i:Int)<(p.tables.length:Int):=by omega
 have hwC':=aa hwC
 have hP3:=aa (hP2.below (hbc.mono hBb))
 have hK3:=aa (hK.below aW (hbc.mono hBb))
 clear hcell hT hK hC hP2 hP hw hqz r1 r2 hbc hcb hcc hcz hwC hst
 replace hz2:=aa hz2
 replace hsc:=aa hsc
 have hb0:Below wc.heap.size wc wc:=Bi _ _
 have hg:=ax hb0 (Bm _)
 have hjl:=(Bp.1 hj).1
 have hjz:(j:Int)<(f.actions.length:Int):=by omega
 obtain ⟨b',o',hA',hb',hcell',hz⟩:=hK3.out.str hjl
 subst hA'
 rw [(Bp.1 hj).2] at hcell'
 have hbw':b'<wc.heap.size:=by omega
 have hX:∀ d os,Hid (Calls prog 44 #[.agg (aq p A1 A2 A3 A4 (some ⟨b,o,none⟩) A6 A7 c1 c2 c3 c4 c5 c6 c7),.string nm] (Bl (redrawn wc d) os) _):=fun d os=>aa (eK _ A1 A2 A3 A4 (some ⟨b,o,none⟩) A6 A7 p c1 c2 c3 c4 c5 c6 c7 nm (hP3.out.grown hBc d os).1 (hP3.out.grown hBc d os).2)
 have hI:∀ (W:World),Below wc.heap.size wc W→∀ d os,Hid (Calls prog 177 #[.slice (some ⟨b',o',none⟩) f.actions.length d2,.string nm] (Bl (redrawn W d) os) _):=fun W hb d os=>aa (oW f.actions (some ⟨b',o',none⟩) d2 nm _ (hK3.out.below aW ((aA hb hb.size d os).mono hBc)))
 generalize bz p nm=zz at hX ⊢
 generalize bb f.actions nm=zi at hI ⊢
 replace hI:=aa hI
 clear hb0 hi hj
 go_enter func109,ntmps109
 by_cases hz:zz<0
 focus
  go_wp2_with fail
  refine cD ?_
  repeat (any_goals (first|go_big_quiet_step (first|(go_at_call 44;with_reducible exact Bh (hX _ _).out))|quiet_step (first|(go_at_call 44;with_reducible exact Bh (hX _ _).out))))
  refine wpQuiet_nil ?_
  intro w1 hw1
  replace hw1:=ac hw1
  go_wp2
  go_ret
  exact ⟨ag (by simp [cF,aQ,hz]),hwC'.out.trans (hw1.mono (by omega))⟩
 rotate_right
 focus
  go_wp2_with fail
  refine cD ?_
  repeat (any_goals (first|go_big_quiet_step (first|(go_at_call 44;with_reducible exact Bh (hX _ _).out))|quiet_step (first|(go_at_call 44;with_reducible exact Bh (hX _ _).out))))
  refine wpQuiet_nil ?_
  intro w1 hw1
  replace hw1:=ac hw1
  have hI1:=hI.out w1 hw1
  have hg1:=ax hw1 hw1.size
  have hc1:=ab hw1
  have zz1:=hw1.size
  replace hw1:=aa hw1
  clear hg
  by_cases hzi:zi<(j:Int)
 all_goals
  go_wp2_with fail
  refine cD ?_
  repeat (any_goals (first|go_big_quiet_step (first|(go_at_call 177;with_reducible exact Bh (hI1 _ _).out))|quiet_step (first|(go_at_call 177;with_reducible exact Bh (hI1 _ _).out))))
  refine wpQuiet_nil ?_
  intro w2 hw2
  replace hw2:=ac hw2
  go_wp2
  go_ret
  exact ⟨ag (by simp [cF,aQ,hz,hzi]),(hwC'.out.trans (hw1.out.mono (by omega))).trans (hw2.mono (by omega))⟩
theorem kF (A1 A2 A3 A4 A5 A6 A7:Option Addr) (p:Pg) (c1 c2 c3 c4 c5 c6 c7:Nat) (B i:Nat) (f:Ta) (s0 s1 s2 s3 s4 s5 s6 s7 s8 s9 s10 s11 s12 s13:Value) (w:World) (hB:B≤w.heap.size) (hP:bu w B A1 A2 A3 A4 A5 A6 A7 p) (hi:p.tables[i]? =some f):
  Calls prog 109 #[.agg (aq p A1 A2 A3 A4 A5 A6 A7 c1 c2 c3 c4 c5 c6 c7),.agg #[.int .u8 14,.int .i64 (i:Int),.int .i64 0,s0,s1,s2,s3,s4,s5,s6,s7,s8,s9,s10,s11,s12,s13]] w fun r w'=>r=.returned (.int .i64 (eP p f))∧Below w.heap.size w w':=by
 unfold aq
 have hs:=Bp.1 hi
 obtain ⟨hlt,hst⟩:=hs
 obtain ⟨wa,hwa,hsa,wb,hwb,hsb,hw,hqz,hcb⟩:=ic w (aq p A1 A2 A3 A4 A5 A6 A7 c1 c2 c3 c4 c5 c6 c7) 30 #[.int .u8 14,.int .i64 (i:Int),.int .i64 0,s0,s1,s2,s3,s4,s5,s6,s7,s8,s9,s10,s11,s12,s13] 49
 obtain ⟨z0,z1,z2,z3,z4,z5,z6⟩:=aF (w:=wb) (a:=w.heap.size) fun i=>hqz i
 have y0:wb.cell? ⟨w.heap.size+1,0,none⟩=some (.int .u8 14):=hcb 0
 have y1:wb.cell? ⟨w.heap.size+1,1,none⟩=some (.int .i64 (i:Int)):=hcb 1
 have y2:wb.cell? ⟨w.heap.size+1,2,none⟩=some (.int .i64 0):=hcb 2
 have hl1:w.heap.size<wb.heap.size:=by omega
 have hl2:w.heap.size+1<wb.heap.size:=by omega
 have hz2:w.heap.size+2=wb.heap.size:=by omega
 have hBb:B≤wb.heap.size:=by omega
 have hP2:=hP.below (hw.mono hB)
 have lst:=hP2.tables.len
 obtain ⟨b,o,ecs,hA3,hb,hel,hcell,B1,d1,B2,d2,B3,d3,rfl,hn,hd,hT,hK,hC⟩:=hP2.tables.2 i f hi
 subst hA3
 have m1:=hT.len
 have m2:=hK.len
 have m3:=hC.len
 obtain ⟨x0,x1,x2,x3,x4⟩:=cN hcell
 obtain ⟨wc,hwc,hsc,hbc,hcc,-⟩:=al wb #[.string f.name,.slice B1 f.keys.length d1,.slice B2 f.actions.length d2,.string f.dname,.slice B3 f.dargs.length d3] 58
 have hwC:=hw.trans (hbc.mono (by omega))
 have r1:∀ i,wc.cell? ⟨w.heap.size,i,none⟩=wb.cell? ⟨w.heap.size,i,none⟩:=fun i=>hbc.cell (p:=⟨w.heap.size,i,none⟩) (by show w.heap.size<_;omega)
 have r2:∀ i,wc.cell? ⟨w.heap.size+1,i,none⟩=wb.cell? ⟨w.heap.size+1,i,none⟩:=fun i=>hbc.cell (p:=⟨w.heap.size+1,i,none⟩) (by show w.heap.size+1<_;omega)
 have hcz:∀ i,wc.cell? ⟨w.heap.size,i,none⟩=(#[.slice A1 p.headers.length c1,.slice A2 p.metas.length c2,.slice A3 p.states.length c3,.slice A4 p.actions.length c4,.slice (some ⟨b,o,none⟩) p.tables.length c5,.slice A6 p.control.length c6,.slice A7 p.emit.length c7]:Array Value)[i]? :=fun i=>(r1 i).trans (hqz i)
 obtain ⟨f0,f1,f2,f3,f4,f5,f6⟩:=aF (w:=wc) (a:=w.heap.size) fun i=>hcz i
 have g0:wc.cell? ⟨w.heap.size+1,0,none⟩=some (.int .u8 14):=(r2 0).trans y0
 have g1:wc.cell? ⟨w.heap.size+1,1,none⟩=some (.int .i64 (i:Int)):=(r2 1).trans y1
 have g2:wc.cell? ⟨w.heap.size+1,2,none⟩=some (.int .i64 0):=(r2 2).trans y2
 simp only [hsb,hsa] at hcc
 obtain ⟨v0,v1,v2,v3,v4⟩:=fR hcc
 have hk1:w.heap.size<wc.heap.size:=by omega
 have hk2:w.heap.size+1<wc.heap.size:=by omega
 have hk3:w.heap.size+1+1<wc.heap.size:=by omega
 have hBc:B≤wc.heap.size:=by omega
 have hbw:b<wc.heap.size:=by omega
 have hiz:(i:Int)<(p.tables.length:Int):=by omega
 have hwC':=aa hwC
 have hP3:=aa (hP2.below (hbc.mono hBb))
 have hK3:=aa (hK.below aW (hbc.mono hBb))
 clear hcell hT hK hC hP2 hP hw hqz r1 r2 hbc hcb hcc hcz hwC hst
 replace hz2:=aa hz2
 replace hsc:=aa hsc
 have hb0:Below wc.heap.size wc wc:=Bi _ _
 have hg:=ax hb0 (Bm _)
 have hX:=aa (eK wc A1 A2 A3 A4 (some ⟨b,o,none⟩) A6 A7 p c1 c2 c3 c4 c5 c6 c7 f.dname hBc hP3.out)
 have hI:∀ (W:World),Below wc.heap.size wc W→Calls prog 177 #[.slice B2 f.actions.length d2,.string f.dname] W _:=fun W hb=>lx f.actions B2 d2 f.dname W (hK3.out.below aW (hb.mono hBc))
 have hin:f.dname∈f.actions↔0≤bb f.actions f.dname:=by
  unfold bb
  by_cases h:f.dname∈f.actions
  ·simp only [if_pos h];exact ⟨fun _=>by omega,fun _=>h⟩
  ·simp only [if_neg h];exact ⟨fun h'=>absurd h' h,fun h'=>by omega⟩
 obtain ⟨r,hr⟩:∃ r,eP p f=r:=⟨_,rfl⟩
 have hv:=aa hr
 simp only [eP] at hv
 replace hr:=aa hr
 have hP4:=hP3
 generalize bb f.actions f.dname=zi at hI hin
 replace hI:=aa hI
 clear hi
 go_enter func109,ntmps109
 by_cases h0:bz p f.dname<0
 focus
  have hv2:=aa (show r=7 from by
   rw [←hv.out]
   split
   ·rfl
   ·rfl)
  simp only [if_pos h0] at hv
  generalize bz p f.dname=zz at hX h0
  go_wp2_with (go_at_call 44;refine hX.out.mono ?_;rintro e w1 ⟨rfl,hw1⟩;have hc1:=ab hw1;have zk1:=Bg hk1 hw1.size;have zk2:=Bg hk2 hw1.size;have zk3:=Bg hk3 hw1.size)
  have hI1:=aa (hI.out w1 hw1)
  replace hw1:=aa hw1
  clear hg
  by_cases hzi:zi<0
  all_goals
   refine hI1.out.mono ?_
   rintro e w2 ⟨rfl,rfl⟩
   go_wp2
   go_ret
   exact ⟨ag (hv2.out.symm.trans hr.out.symm),hwC'.out.trans (hw1.out.mono (by omega))⟩
 rotate_right
 focus
  obtain ⟨k,hk,he⟩:=dB (l:=p.actions.map Ac.name) (a:=f.dname) h0
  rw [List.length_map] at hk
  have hvk:bz p f.dname=(k:Int):=he
  simp only [if_neg h0] at hv
  rw [hvk,BM,Bk hk,Option.elim_some] at hv
  rw [hvk] at hX
  clear he h0 hvk
  have la:=hP3.out.actions.len
  obtain ⟨b2,o2,ecs2,hA4,hb2,hel2,hcell2,C1,e1,C2,e2,rfl,hn2,hF2,hG2⟩:=hP3.out.actions.2 k _ (Bk hk)
  subst hA4
  have l4:=hF2.len
  have l5:=hG2.len
  have hbw2:b2<wc.heap.size:=by omega
  obtain ⟨n0,n1,n2⟩:=dl hcell2
  have hkz:(k:Int)<(p.actions.length:Int):=by omega
  clear hcell2 hF2 hG2 hP3 hP4
  generalize p.actions[k].params.length=m at*
  simp only [Int.ofNat_lt] at hv
  go_wp2_with (go_at_call 44;refine hX.out.mono ?_;rintro e w1 ⟨rfl,hw1⟩;have hc1:=ab hw1;have zk1:=Bg hk1 hw1.size;have zk2:=Bg hk2 hw1.size;have zk3:=Bg hk3 hw1.size)
  have hI1:=aa (hI.out w1 hw1)
  replace hw1:=aa hw1
  clear hg
  by_cases hzi:zi<0
  focus
   have hm:¬f.dname∈f.actions:=fun h=>by have:=hin.1 h;omega
   simp only [if_neg hm] at hv
   refine hI1.out.mono ?_
   rintro e w2 ⟨rfl,rfl⟩
   go_wp2
   go_ret
   exact ⟨ag (hv.out.trans hr.out.symm),hwC'.out.trans (hw1.out.mono (by omega))⟩
  rotate_right
  focus
   have hm:f.dname∈f.actions:=hin.2 (by omega)
   simp only [if_pos hm] at hv
   clear hm hin
   by_cases t1:f.dargs.length<m
   focus
    have hv2:=aa (show r=13 from by rw [←hv.out];simp [cF,aQ,t1])
    have t1z:(f.dargs.length:Int)<(m:Int):=by omega
    refine hI1.out.mono ?_
    rintro e w2 ⟨rfl,rfl⟩
    go_wp2
    go_quiet (fail)
    go_wp2
    go_ret
    exact ⟨ag (hv2.out.symm.trans hr.out.symm),hwC'.out.trans ((e9 hw1.out _).mono (by omega))⟩
   rotate_right
   focus
    by_cases t2:m<f.dargs.length
    have hv2:=aa (show r=5 from by rw [←hv.out];simp [cF,aQ,t1,t2])
    have t2z:(m:Int)<(f.dargs.length:Int):=by omega
    rotate_right
    have hv2:=aa (show r=0 from by rw [←hv.out];simp [cF,aQ,t1,t2])
    have t3:m=f.dargs.length:=by omega
 all_goals
  refine hI1.out.mono ?_
  rintro e w2 ⟨rfl,rfl⟩
  go_wp2
  go_quiet (fail)
  go_wp2
  go_quiet (fail)
  go_wp2
  go_ret
  exact ⟨ag (hv2.out.symm.trans hr.out.symm),hwC'.out.trans ((e9 (e9 hw1.out _) _).mono (by omega))⟩
theorem nj (A1 A2 A3 A4 A5 A6 A7:Option Addr) (p:Pg) (c1 c2 c3 c4 c5 c6 c7:Nat) (B:Nat) (k:Int) (hk:k=13) (a b:Int) (z:Int) (s0 s1 s2 s3 s4 s5 s6 s7 s8 s9 s10 s11 s12 s13:Value) (w:World) (hB:B≤w.heap.size)
  (hX0:∀ W,B≤W.heap.size→Below w.heap.size w W→Calls prog 109 #[.agg (aq p A1 A2 A3 A4 A5 A6 A7 c1 c2 c3 c4 c5 c6 c7),.agg #[.int .u8 k,.int .i64 a,.int .i64 b,s0,s1,s2,s3,s4,s5,s6,s7,s8,s9,s10,s11,s12,s13]] W fun r W'=>r=.returned (.int .i64 z)∧Below W.heap.size W W'):
  Calls prog 40 #[.agg (aq p A1 A2 A3 A4 A5 A6 A7 c1 c2 c3 c4 c5 c6 c7),.agg #[.int .u8 k,.int .i64 a,.int .i64 b,s0,s1,s2,s3,s4,s5,s6,s7,s8,s9,s10,s11,s12,s13]] w fun r w'=>r=.returned (.int .i64 (z))∧Below w.heap.size w w':=by
 unfold aq
 obtain ⟨wa,hwa,hsa,wb,hwb,hsb,hw,hqz,hcb⟩:=ic w (aq p A1 A2 A3 A4 A5 A6 A7 c1 c2 c3 c4 c5 c6 c7) 30 #[.int .u8 k,.int .i64 a,.int .i64 b,s0,s1,s2,s3,s4,s5,s6,s7,s8,s9,s10,s11,s12,s13] 49
 obtain ⟨z0,z1,z2,z3,z4,z5,z6⟩:=aF (w:=wb) (a:=w.heap.size) fun i=>hqz i
 obtain ⟨y0,y1,y2,y3,y4,y5,y6,y7,y8,y9,y10,y11,y12,y13,y14,y15,y16⟩:=bv hcb
 have hl1:w.heap.size<wb.heap.size:=by omega
 have hl2:w.heap.size+1<wb.heap.size:=by omega
 have hz2:w.heap.size+2≤wb.heap.size:=by omega
 have hBb:B≤wb.heap.size:=by omega
 have hb0:Below wb.heap.size wb wb:=Bi _ _
 have hwC:=aa hw
 replace hsb:=aa hsb
 clear hqz hcb
 have hX:=aa (hX0 wb hBb (hwC.out))
 clear hX0 hb0
 rcases hk with rfl<;>(
  go_enter func40,ntmps40
  go_wp2_with (go_at_call 109;refine hX.out.mono ?_;rintro e w1 ⟨rfl,hw1⟩)
  go_ret
  exact ⟨rfl,hwC.out.trans (hw1.mono (by omega))⟩)
theorem nk (A1 A2 A3 A4 A5 A6 A7:Option Addr) (p:Pg) (c1 c2 c3 c4 c5 c6 c7:Nat) (B:Nat) (k:Int) (hk:k=14) (a b:Int) (z:Int) (s0 s1 s2 s3 s4 s5 s6 s7 s8 s9 s10 s11 s12 s13:Value) (w:World) (hB:B≤w.heap.size)
  (hX0:∀ W,B≤W.heap.size→Below w.heap.size w W→Calls prog 109 #[.agg (aq p A1 A2 A3 A4 A5 A6 A7 c1 c2 c3 c4 c5 c6 c7),.agg #[.int .u8 k,.int .i64 a,.int .i64 b,s0,s1,s2,s3,s4,s5,s6,s7,s8,s9,s10,s11,s12,s13]] W fun r W'=>r=.returned (.int .i64 z)∧Below W.heap.size W W'):
  Calls prog 40 #[.agg (aq p A1 A2 A3 A4 A5 A6 A7 c1 c2 c3 c4 c5 c6 c7),.agg #[.int .u8 k,.int .i64 a,.int .i64 b,s0,s1,s2,s3,s4,s5,s6,s7,s8,s9,s10,s11,s12,s13]] w fun r w'=>r=.returned (.int .i64 (z))∧Below w.heap.size w w':=by
 unfold aq
 obtain ⟨wa,hwa,hsa,wb,hwb,hsb,hw,hqz,hcb⟩:=ic w (aq p A1 A2 A3 A4 A5 A6 A7 c1 c2 c3 c4 c5 c6 c7) 30 #[.int .u8 k,.int .i64 a,.int .i64 b,s0,s1,s2,s3,s4,s5,s6,s7,s8,s9,s10,s11,s12,s13] 49
 obtain ⟨z0,z1,z2,z3,z4,z5,z6⟩:=aF (w:=wb) (a:=w.heap.size) fun i=>hqz i
 obtain ⟨y0,y1,y2,y3,y4,y5,y6,y7,y8,y9,y10,y11,y12,y13,y14,y15,y16⟩:=bv hcb
 have hl1:w.heap.size<wb.heap.size:=by omega
 have hl2:w.heap.size+1<wb.heap.size:=by omega
 have hz2:w.heap.size+2≤wb.heap.size:=by omega
 have hBb:B≤wb.heap.size:=by omega
 have hb0:Below wb.heap.size wb wb:=Bi _ _
 have hwC:=aa hw
 replace hsb:=aa hsb
 clear hqz hcb
 have hX:=aa (hX0 wb hBb (hwC.out))
 clear hX0 hb0
 rcases hk with rfl<;>(
  go_enter func40,ntmps40
  go_wp2_with (go_at_call 109;refine hX.out.mono ?_;rintro e w1 ⟨rfl,hw1⟩)
  go_ret
  exact ⟨rfl,hwC.out.trans (hw1.mono (by omega))⟩)
theorem np (A1 A2 A3 A4 A5 A6 A7:Option Addr) (p:Pg) (c1 c2 c3 c4 c5 c6 c7:Nat) (B:Nat) (k:Int) (hk:k=15) (a b:Int) (z:Int) (s0 s1 s2 s3 s4 s5 s6 s7 s8 s9 s10 s11 s12 s13:Value) (w:World) (hB:B≤w.heap.size)
  (hX0:∀ W,B≤W.heap.size→Below w.heap.size w W→Calls prog 109 #[.agg (aq p A1 A2 A3 A4 A5 A6 A7 c1 c2 c3 c4 c5 c6 c7),.agg #[.int .u8 k,.int .i64 a,.int .i64 b,s0,s1,s2,s3,s4,s5,s6,s7,s8,s9,s10,s11,s12,s13]] W fun r W'=>r=.returned (.int .i64 z)∧Below W.heap.size W W'):
  Calls prog 40 #[.agg (aq p A1 A2 A3 A4 A5 A6 A7 c1 c2 c3 c4 c5 c6 c7),.agg #[.int .u8 k,.int .i64 a,.int .i64 b,s0,s1,s2,s3,s4,s5,s6,s7,s8,s9,s10,s11,s12,s13]] w fun r w'=>r=.returned (.int .i64 (z))∧Below w.heap.size w w':=by
 unfold aq
 obtain ⟨wa,hwa,hsa,wb,hwb,hsb,hw,hqz,hcb⟩:=ic w (aq p A1 A2 A3 A4 A5 A6 A7 c1 c2 c3 c4 c5 c6 c7) 30 #[.int .u8 k,.int .i64 a,.int .i64 b,s0,s1,s2,s3,s4,s5,s6,s7,s8,s9,s10,s11,s12,s13] 49
 obtain ⟨z0,z1,z2,z3,z4,z5,z6⟩:=aF (w:=wb) (a:=w.heap.size) fun i=>hqz i
 obtain ⟨y0,y1,y2,y3,y4,y5,y6,y7,y8,y9,y10,y11,y12,y13,y14,y15,y16⟩:=bv hcb
 have hl1:w.heap.size<wb.heap.size:=by omega
 have hl2:w.heap.size+1<wb.heap.size:=by omega
 have hz2:w.heap.size+2≤wb.heap.size:=by omega
 have hBb:B≤wb.heap.size:=by omega
 have hb0:Below wb.heap.size wb wb:=Bi _ _
 have hwC:=aa hw
 replace hsb:=aa hsb
 clear hqz hcb
 have hX:=aa (hX0 wb hBb (hwC.out))
 clear hX0 hb0
 rcases hk with rfl<;>(
  go_enter func40,ntmps40
  go_wp2_with (go_at_call 109;refine hX.out.mono ?_;rintro e w1 ⟨rfl,hw1⟩)
  go_ret
  exact ⟨rfl,hwC.out.trans (hw1.mono (by omega))⟩)
theorem ee {α β:Type} [DecidableEq β] {l:List α} {f:α→β} {i:Nat} {a:α} (h:l[i]? =some a):0≤bb (l.map f) (f a)∧bb (l.map f) (f a)≤(i:Int):=by
 obtain ⟨hi,rfl⟩:=Bp.1 h
 have hm:f l[i]∈l.map f:=List.mem_map_of_mem (Bv hi)
 unfold bb
 rw [if_pos hm]
 have:=zU (l.map f) i (by simpa using hi)
 simp only [List.getElem_map] at this
 omega
theorem wq {p:Pg} {i:Nat} {f:Sa} (h:p.states[i]? =some f):co p f.name≤(i:Int):=by
 have:=ee (f:=Sa.name) h
 unfold co iK
 split
 ·omega
 ·split
  ·omega
  ·omega
theorem rT (A1 A2 A3 A4 A5 A6 A7:Option Addr) (p:Pg) (c1 c2 c3 c4 c5 c6 c7:Nat) (B i:Nat) (f:Fd) (s0 s1 s2 s3 s4 s5 s6 s7 s8 s9 s10 s11 s12 s13:Value) (w:World) (hB:B≤w.heap.size) (hP:bu w B A1 A2 A3 A4 A5 A6 A7 p) (hi:p.metas[i]? =some f):
  Calls prog 110 #[.agg (aq p A1 A2 A3 A4 A5 A6 A7 c1 c2 c3 c4 c5 c6 c7),.agg #[.int .u8 3,.int .i64 (i:Int),.int .i64 0,s0,s1,s2,s3,s4,s5,s6,s7,s8,s9,s10,s11,s12,s13]] w fun r w'=>r=.returned (.int .i64 (cF (decide (ct p f.1<(i:Int))) 8))∧Below w.heap.size w w':=by
 unfold aq
 obtain ⟨wa,hwa,hsa,wb,hwb,hsb,hw,hqz,hcb⟩:=ic w (aq p A1 A2 A3 A4 A5 A6 A7 c1 c2 c3 c4 c5 c6 c7) 30 #[.int .u8 3,.int .i64 (i:Int),.int .i64 0,s0,s1,s2,s3,s4,s5,s6,s7,s8,s9,s10,s11,s12,s13] 49
 obtain ⟨z0,z1,z2,z3,z4,z5,z6⟩:=aF (w:=wb) (a:=w.heap.size) fun i=>hqz i
 obtain ⟨y0,y1,y2,y3,y4,y5,y6,y7,y8,y9,y10,y11,y12,y13,y14,y15,y16⟩:=bv hcb
 have hl1:w.heap.size<wb.heap.size:=by omega
 have hl2:w.heap.size+1<wb.heap.size:=by omega
 have hz2:w.heap.size+2≤wb.heap.size:=by omega
 have hBb:B≤wb.heap.size:=by omega
 have hP2:=hP.below (hw.mono hB)
 have hb0:Below wb.heap.size wb wb:=Bi _ _
 have hwC:=aa hw
 replace hsb:=aa hsb
 clear hP hqz hcb
 have lst:=hP2.metas.len
 obtain ⟨b,o,ecs,hA,hb,hel,hcell,rfl,hn,hi6⟩:=hP2.metas.2 i _ hi
 subst hA
 have x0:wb.cell? ⟨b,o+i*2,none⟩=some (.string f.1):=by simpa using hcell 0 _ rfl
 have x1:wb.cell? ⟨b,o+i*2+1,none⟩=some (.int .i64 f.2):=hcell 1 _ rfl
 have hbw:b<wb.heap.size:=by omega
 have hiz:(i:Int)<(p.metas.length:Int):=by have:=(Bp.1 hi).1;omega
 have hg:=ax hb0 hb0.size
 have hX:∀ d os,Hid (Calls prog 114 #[.agg (aq p A1 (some ⟨b,o,none⟩) A3 A4 A5 A6 A7 c1 c2 c3 c4 c5 c6 c7),.string f.1] (Bl (redrawn wb d) os) _):=fun d os=>aa (eW _ A1 (some ⟨b,o,none⟩) A3 A4 A5 A6 A7 p c1 c2 c3 c4 c5 c6 c7 f.1 (hP2.grown hBb d os).1 (hP2.grown hBb d os).2)
 have hle:=(show ct p f.1≤(i:Int) from (ee (f:=Prod.fst) hi).2)
 generalize ct p f.1=zz at hX hle ⊢
 replace hP2:=aa hP2
 clear hb0 hcell hi
 by_cases hz:zz=(i:Int)
 ·subst hz
  go_enter func110,ntmps110
  go_wp2_with fail
  refine cD ?_
  repeat (any_goals (first|go_big_quiet_step (first|(go_at_call 114;with_reducible exact Bh (hX _ _).out))|quiet_step (first|(go_at_call 114;with_reducible exact Bh (hX _ _).out))))
  refine wpQuiet_nil ?_
  intro w1 hw1
  replace hw1:=ac hw1
  have hc1:=ab hw1
  go_wp2
  go_ret
  exact ⟨ag (by simp [cF]),hwC.out.trans (hw1.mono (by omega))⟩
 ·have hz1:zz<(i:Int):=by omega
  have hz2:¬(i:Int)=zz:=fun h=>hz h.symm
  clear hle
  go_enter func110,ntmps110
  go_wp2_with fail
  refine cD ?_
  repeat (any_goals (first|go_big_quiet_step (first|(go_at_call 114;with_reducible exact Bh (hX _ _).out))|quiet_step (first|(go_at_call 114;with_reducible exact Bh (hX _ _).out))))
  refine wpQuiet_nil ?_
  intro w1 hw1
  replace hw1:=ac hw1
  have hc1:=ab hw1
  go_wp2
  go_ret
  exact ⟨ag (by simp [cF,hz1]),hwC.out.trans (hw1.mono (by omega))⟩
theorem nT (A1 A2 A3 A4 A5 A6 A7:Option Addr) (p:Pg) (c1 c2 c3 c4 c5 c6 c7:Nat) (B i:Nat) (f:Ac) (s0 s1 s2 s3 s4 s5 s6 s7 s8 s9 s10 s11 s12 s13:Value) (w:World) (hB:B≤w.heap.size) (hP:bu w B A1 A2 A3 A4 A5 A6 A7 p) (hi:p.actions[i]? =some f):
  Calls prog 110 #[.agg (aq p A1 A2 A3 A4 A5 A6 A7 c1 c2 c3 c4 c5 c6 c7),.agg #[.int .u8 8,.int .i64 (i:Int),.int .i64 0,s0,s1,s2,s3,s4,s5,s6,s7,s8,s9,s10,s11,s12,s13]] w fun r w'=>r=.returned (.int .i64 (cF (decide (bz p f.name<(i:Int))) 8))∧Below w.heap.size w w':=by
 unfold aq
 obtain ⟨wa,hwa,hsa,wb,hwb,hsb,hw,hqz,hcb⟩:=ic w (aq p A1 A2 A3 A4 A5 A6 A7 c1 c2 c3 c4 c5 c6 c7) 30 #[.int .u8 8,.int .i64 (i:Int),.int .i64 0,s0,s1,s2,s3,s4,s5,s6,s7,s8,s9,s10,s11,s12,s13] 49
 obtain ⟨z0,z1,z2,z3,z4,z5,z6⟩:=aF (w:=wb) (a:=w.heap.size) fun i=>hqz i
 obtain ⟨y0,y1,y2,y3,y4,y5,y6,y7,y8,y9,y10,y11,y12,y13,y14,y15,y16⟩:=bv hcb
 have hl1:w.heap.size<wb.heap.size:=by omega
 have hl2:w.heap.size+1<wb.heap.size:=by omega
 have hz2:w.heap.size+2≤wb.heap.size:=by omega
 have hBb:B≤wb.heap.size:=by omega
 have hP2:=hP.below (hw.mono hB)
 have hb0:Below wb.heap.size wb wb:=Bi _ _
 have hwC:=aa hw
 replace hsb:=aa hsb
 clear hP hqz hcb
 have lst:=hP2.actions.len
 obtain ⟨b,o,ecs,hA,hb,hel,hcell,B1,d1,B2,d2,rfl,hn,hF,hG⟩:=hP2.actions.2 i _ hi
 subst hA
 obtain ⟨x0,x1,x2⟩:=dl hcell
 have hbw:b<wb.heap.size:=by omega
 have hiz:(i:Int)<(p.actions.length:Int):=by have:=(Bp.1 hi).1;omega
 have hg:=ax hb0 hb0.size
 have hX:∀ d os,Hid (Calls prog 44 #[.agg (aq p A1 A2 A3 (some ⟨b,o,none⟩) A5 A6 A7 c1 c2 c3 c4 c5 c6 c7),.string f.name] (Bl (redrawn wb d) os) _):=fun d os=>aa (eK _ A1 A2 A3 (some ⟨b,o,none⟩) A5 A6 A7 p c1 c2 c3 c4 c5 c6 c7 f.name (hP2.grown hBb d os).1 (hP2.grown hBb d os).2)
 have hle:=(show bz p f.name≤(i:Int) from (ee (f:=Ac.name) hi).2)
 generalize bz p f.name=zz at hX hle ⊢
 replace hP2:=aa hP2
 clear hb0 hcell hi
 by_cases hz:zz=(i:Int)
 ·subst hz
  go_enter func110,ntmps110
  go_wp2_with fail
  refine cD ?_
  repeat (any_goals (first|go_big_quiet_step (first|(go_at_call 44;with_reducible exact Bh (hX _ _).out))|quiet_step (first|(go_at_call 44;with_reducible exact Bh (hX _ _).out))))
  refine wpQuiet_nil ?_
  intro w1 hw1
  replace hw1:=ac hw1
  have hc1:=ab hw1
  go_wp2
  go_ret
  exact ⟨ag (by simp [cF]),hwC.out.trans (hw1.mono (by omega))⟩
 ·have hz1:zz<(i:Int):=by omega
  have hz2:¬(i:Int)=zz:=fun h=>hz h.symm
  clear hle
  go_enter func110,ntmps110
  go_wp2_with fail
  refine cD ?_
  repeat (any_goals (first|go_big_quiet_step (first|(go_at_call 44;with_reducible exact Bh (hX _ _).out))|quiet_step (first|(go_at_call 44;with_reducible exact Bh (hX _ _).out))))
  refine wpQuiet_nil ?_
  intro w1 hw1
  replace hw1:=ac hw1
  have hc1:=ab hw1
  go_wp2
  go_ret
  exact ⟨ag (by simp [cF,hz1]),hwC.out.trans (hw1.mono (by omega))⟩
theorem pZ (A1 A2 A3 A4 A5 A6 A7:Option Addr) (p:Pg) (c1 c2 c3 c4 c5 c6 c7:Nat) (B i:Nat) (f:Ta) (s0 s1 s2 s3 s4 s5 s6 s7 s8 s9 s10 s11 s12 s13:Value) (w:World) (hB:B≤w.heap.size) (hP:bu w B A1 A2 A3 A4 A5 A6 A7 p) (hi:p.tables[i]? =some f):
  Calls prog 110 #[.agg (aq p A1 A2 A3 A4 A5 A6 A7 c1 c2 c3 c4 c5 c6 c7),.agg #[.int .u8 11,.int .i64 (i:Int),.int .i64 0,s0,s1,s2,s3,s4,s5,s6,s7,s8,s9,s10,s11,s12,s13]] w fun r w'=>r=.returned (.int .i64 (cF (decide (eE p f.name<(i:Int))) 8))∧Below w.heap.size w w':=by
 unfold aq
 obtain ⟨wa,hwa,hsa,wb,hwb,hsb,hw,hqz,hcb⟩:=ic w (aq p A1 A2 A3 A4 A5 A6 A7 c1 c2 c3 c4 c5 c6 c7) 30 #[.int .u8 11,.int .i64 (i:Int),.int .i64 0,s0,s1,s2,s3,s4,s5,s6,s7,s8,s9,s10,s11,s12,s13] 49
 obtain ⟨z0,z1,z2,z3,z4,z5,z6⟩:=aF (w:=wb) (a:=w.heap.size) fun i=>hqz i
 obtain ⟨y0,y1,y2,y3,y4,y5,y6,y7,y8,y9,y10,y11,y12,y13,y14,y15,y16⟩:=bv hcb
 have hl1:w.heap.size<wb.heap.size:=by omega
 have hl2:w.heap.size+1<wb.heap.size:=by omega
 have hz2:w.heap.size+2≤wb.heap.size:=by omega
 have hBb:B≤wb.heap.size:=by omega
 have hP2:=hP.below (hw.mono hB)
 have hb0:Below wb.heap.size wb wb:=Bi _ _
 have hwC:=aa hw
 replace hsb:=aa hsb
 clear hP hqz hcb
 have lst:=hP2.tables.len
 obtain ⟨b,o,ecs,hA,hb,hel,hcell,B1,d1,B2,d2,B3,d3,rfl,hn,hd,hF,hG,hH⟩:=hP2.tables.2 i _ hi
 subst hA
 obtain ⟨x0,x1,x2,x3,x4⟩:=cN hcell
 have hbw:b<wb.heap.size:=by omega
 have hiz:(i:Int)<(p.tables.length:Int):=by have:=(Bp.1 hi).1;omega
 have hg:=ax hb0 hb0.size
 have hX:∀ d os,Hid (Calls prog 176 #[.agg (aq p A1 A2 A3 A4 (some ⟨b,o,none⟩) A6 A7 c1 c2 c3 c4 c5 c6 c7),.string f.name] (Bl (redrawn wb d) os) _):=fun d os=>aa (ly _ A1 A2 A3 A4 (some ⟨b,o,none⟩) A6 A7 p c1 c2 c3 c4 c5 c6 c7 f.name (hP2.grown hBb d os).1 (hP2.grown hBb d os).2)
 have hle:=(show eE p f.name≤(i:Int) from (ee (f:=Ta.name) hi).2)
 generalize eE p f.name=zz at hX hle ⊢
 replace hP2:=aa hP2
 clear hb0 hcell hi
 by_cases hz:zz=(i:Int)
 ·subst hz
  go_enter func110,ntmps110
  go_wp2_with fail
  refine cD ?_
  repeat (any_goals (first|go_big_quiet_step (first|(go_at_call 176;with_reducible exact Bh (hX _ _).out))|quiet_step (first|(go_at_call 176;with_reducible exact Bh (hX _ _).out))))
  refine wpQuiet_nil ?_
  intro w1 hw1
  replace hw1:=ac hw1
  have hc1:=ab hw1
  go_wp2
  go_ret
  exact ⟨ag (by simp [cF]),hwC.out.trans (hw1.mono (by omega))⟩
 ·have hz1:zz<(i:Int):=by omega
  have hz2:¬(i:Int)=zz:=fun h=>hz h.symm
  clear hle
  go_enter func110,ntmps110
  go_wp2_with fail
  refine cD ?_
  repeat (any_goals (first|go_big_quiet_step (first|(go_at_call 176;with_reducible exact Bh (hX _ _).out))|quiet_step (first|(go_at_call 176;with_reducible exact Bh (hX _ _).out))))
  refine wpQuiet_nil ?_
  intro w1 hw1
  replace hw1:=ac hw1
  have hc1:=ab hw1
  go_wp2
  go_ret
  exact ⟨ag (by simp [cF,hz1]),hwC.out.trans (hw1.mono (by omega))⟩
theorem p9 (A1 A2 A3 A4 A5 A6 A7:Option Addr) (p:Pg) (c1 c2 c3 c4 c5 c6 c7:Nat) (B i:Nat) (f:Sa) (s0 s1 s2 s3 s4 s5 s6 s7 s8 s9 s10 s11 s12 s13:Value) (w:World) (hB:B≤w.heap.size) (hP:bu w B A1 A2 A3 A4 A5 A6 A7 p) (hi:p.states[i]? =some f):
  Calls prog 110 #[.agg (aq p A1 A2 A3 A4 A5 A6 A7 c1 c2 c3 c4 c5 c6 c7),.agg #[.int .u8 4,.int .i64 (i:Int),.int .i64 0,s0,s1,s2,s3,s4,s5,s6,s7,s8,s9,s10,s11,s12,s13]] w fun r w'=>r=.returned (.int .i64 (cF (decide (co p f.name<(i:Int))) 8))∧Below w.heap.size w w':=by
 unfold aq
 obtain ⟨wa,hwa,hsa,wb,hwb,hsb,hw,hqz,hcb⟩:=ic w (aq p A1 A2 A3 A4 A5 A6 A7 c1 c2 c3 c4 c5 c6 c7) 30 #[.int .u8 4,.int .i64 (i:Int),.int .i64 0,s0,s1,s2,s3,s4,s5,s6,s7,s8,s9,s10,s11,s12,s13] 49
 obtain ⟨z0,z1,z2,z3,z4,z5,z6⟩:=aF (w:=wb) (a:=w.heap.size) fun i=>hqz i
 obtain ⟨y0,y1,y2,y3,y4,y5,y6,y7,y8,y9,y10,y11,y12,y13,y14,y15,y16⟩:=bv hcb
 have hl1:w.heap.size<wb.heap.size:=by omega
 have hl2:w.heap.size+1<wb.heap.size:=by omega
 have hz2:w.heap.size+2≤wb.heap.size:=by omega
 have hBb:B≤wb.heap.size:=by omega
 have hP2:=hP.below (hw.mono hB)
 have hb0:Below wb.heap.size wb wb:=Bi _ _
 have hwC:=aa hw
 replace hsb:=aa hsb
 clear hP hqz hcb
 have lst:=hP2.states.len
 obtain ⟨b,o,ecs,hA,hb,hel,hcell,B1,d1,B2,d2,B3,d3,rfl,hn,hd,hF,hG,hH⟩:=hP2.states.2 i _ hi
 subst hA
 obtain ⟨x0,x1,x2,x3,x4⟩:=cN hcell
 have hbw:b<wb.heap.size:=by omega
 have hiz:(i:Int)<(p.states.length:Int):=by have:=(Bp.1 hi).1;omega
 have hg:=ax hb0 hb0.size
 have hX:∀ d os,Hid (Calls prog 174 #[.agg (aq p A1 A2 (some ⟨b,o,none⟩) A4 A5 A6 A7 c1 c2 c3 c4 c5 c6 c7),.string f.name] (Bl (redrawn wb d) os) _):=fun d os=>aa (gW _ A1 A2 (some ⟨b,o,none⟩) A4 A5 A6 A7 p c1 c2 c3 c4 c5 c6 c7 f.name (hP2.grown hBb d os).1 (hP2.grown hBb d os).2)
 have hle:=(show co p f.name≤(i:Int) from wq hi)
 generalize co p f.name=zz at hX hle ⊢
 generalize cA p f.name=zb at hX
 replace hP2:=aa hP2
 clear hb0 hcell hi
 by_cases hz:zz=(i:Int)
 ·subst hz
  go_enter func110,ntmps110
  go_wp2_with fail
  refine cD ?_
  repeat (any_goals (first|go_big_quiet_step (first|(go_at_call 174;with_reducible exact Bh (hX _ _).out))|quiet_step (first|(go_at_call 174;with_reducible exact Bh (hX _ _).out))))
  refine wpQuiet_nil ?_
  intro w1 hw1
  replace hw1:=ac hw1
  have hc1:=ab hw1
  go_wp2
  go_ret
  exact ⟨ag (by simp [cF]),hwC.out.trans (hw1.mono (by omega))⟩
 ·have hz1:zz<(i:Int):=by omega
  have hz2:¬(i:Int)=zz:=fun h=>hz h.symm
  clear hle
  go_enter func110,ntmps110
  go_wp2_with fail
  refine cD ?_
  repeat (any_goals (first|go_big_quiet_step (first|(go_at_call 174;with_reducible exact Bh (hX _ _).out))|quiet_step (first|(go_at_call 174;with_reducible exact Bh (hX _ _).out))))
  refine wpQuiet_nil ?_
  intro w1 hw1
  replace hw1:=ac hw1
  have hc1:=ab hw1
  go_wp2
  go_ret
  exact ⟨ag (by simp [cF,hz1]),hwC.out.trans (hw1.mono (by omega))⟩
end Go.Proofs.YtbbdhknagofghaaGreat

import Derived.Test.YtbbdhknagofghaaGreatTcp20
set_option linter.all false
set_option maxHeartbeats 8000000
set_option maxRecDepth 100000
open Go.Proofs.Tryz
namespace Go.Proofs.YtbbdhknagofghaaGreat
open _root_.Go.Calls renaming regrown_of→Bh
open _root_.Go.RowKit.Below renaming refl→Bi
open _root_.List renaming getElem?_eq_getElem→Bk, getElem?_eq_some_iff→Bp, getElem_mem→Bv, all_eq_true→Bw, take_of_length_le→BB, isEmpty_eq_false_iff→B9
open _root_.Go.Sort renaming grow→Bl
open _root_.Nat renaming le_refl→Bm, zero_le→Bo
open _root_.Bool renaming and_eq_true→Bn
open Go.RowKit
theorem ri (A1 A2 A3 A4 A5 A6 A7:Option Addr) (p:Pg) (c1 c2 c3 c4 c5 c6 c7:Nat) (B i:Nat) (s:Sa) (j:Nat) (nm:ByteArray) (s0 s1 s2 s3 s4 s5 s6 s7 s8 s9 s10 s11 s12 s13:Value) (w:World) (hB:B≤w.heap.size) (hP:bu w B A1 A2 A3 A4 A5 A6 A7 p) (hi:p.states[i]? =some s) (hj:s.takes[j]? =some nm):
  Calls prog 87 #[.agg (aq p A1 A2 A3 A4 A5 A6 A7 c1 c2 c3 c4 c5 c6 c7),.agg #[.int .u8 5,.int .i64 (i:Int),.int .i64 (j:Int),s0,s1,s2,s3,s4,s5,s6,s7,s8,s9,s10,s11,s12,s13]] w fun r w'=>r=.returned (.int .i64 (cF (decide (ap p nm<0)) 7))∧Below w.heap.size w w':=by
 unfold aq
 have hs:=Bp.1 hi
 obtain ⟨hlt,hst⟩:=hs
 obtain ⟨wa,hwa,hsa,wb,hwb,hsb,hw,hqz,hcb⟩:=ic w (aq p A1 A2 A3 A4 A5 A6 A7 c1 c2 c3 c4 c5 c6 c7) 30 #[.int .u8 5,.int .i64 (i:Int),.int .i64 (j:Int),s0,s1,s2,s3,s4,s5,s6,s7,s8,s9,s10,s11,s12,s13] 49
 obtain ⟨z0,z1,z2,z3,z4,z5,z6⟩:=aF (w:=wb) (a:=w.heap.size) fun i=>hqz i
 have y0:wb.cell? ⟨w.heap.size+1,0,none⟩=some (.int .u8 5):=hcb 0
 have y1:wb.cell? ⟨w.heap.size+1,1,none⟩=some (.int .i64 (i:Int)):=hcb 1
 have y2:wb.cell? ⟨w.heap.size+1,2,none⟩=some (.int .i64 (j:Int)):=hcb 2
 have hl1:w.heap.size<wb.heap.size:=by omega
 have hl2:w.heap.size+1<wb.heap.size:=by omega
 have hz2:w.heap.size+2=wb.heap.size:=by omega
 have hBb:B≤wb.heap.size:=by omega
 have hP2:=hP.below (hw.mono hB)
 have lst:=hP2.states.len
 obtain ⟨b,o,ecs,hA3,hb,hel,hcell,B1,d1,B2,d2,B3,d3,rfl,hn,hd,hT,hK,hC⟩:=hP2.states.2 i s hi
 subst hA3
 have m1:=hT.len
 have m2:=hK.len
 have m3:=hC.len
 obtain ⟨x0,x1,x2,x3,x4⟩:=cN hcell
 obtain ⟨wc,hwc,hsc,hbc,hcc,-⟩:=al wb #[.string s.name,.slice B1 s.takes.length d1,.string s.dest,.slice B2 s.keys.length d2,.slice B3 s.cases_.length d3] 61
 have hwC:=hw.trans (hbc.mono (by omega))
 have r1:∀ i,wc.cell? ⟨w.heap.size,i,none⟩=wb.cell? ⟨w.heap.size,i,none⟩:=fun i=>hbc.cell (p:=⟨w.heap.size,i,none⟩) (by show w.heap.size<_;omega)
 have r2:∀ i,wc.cell? ⟨w.heap.size+1,i,none⟩=wb.cell? ⟨w.heap.size+1,i,none⟩:=fun i=>hbc.cell (p:=⟨w.heap.size+1,i,none⟩) (by show w.heap.size+1<_;omega)
 have hcz:∀ i,wc.cell? ⟨w.heap.size,i,none⟩=(#[.slice A1 p.headers.length c1,.slice A2 p.metas.length c2,.slice (some ⟨b,o,none⟩) p.states.length c3,.slice A4 p.actions.length c4,.slice A5 p.tables.length c5,.slice A6 p.control.length c6,.slice A7 p.emit.length c7]:Array Value)[i]? :=fun i=>(r1 i).trans (hqz i)
 obtain ⟨f0,f1,f2,f3,f4,f5,f6⟩:=aF (w:=wc) (a:=w.heap.size) fun i=>hcz i
 have g0:wc.cell? ⟨w.heap.size+1,0,none⟩=some (.int .u8 5):=(r2 0).trans y0
 have g1:wc.cell? ⟨w.heap.size+1,1,none⟩=some (.int .i64 (i:Int)):=(r2 1).trans y1
 have g2:wc.cell? ⟨w.heap.size+1,2,none⟩=some (.int .i64 (j:Int)):=(r2 2).trans y2
 simp only [hsb,hsa] at hcc
 obtain ⟨v0,v1,v2,v3,v4⟩:=fR hcc
 have hk1:w.heap.size<wc.heap.size:=by omega
 have hk2:w.heap.size+1<wc.heap.size:=by omega
 have hk3:w.heap.size+1+1<wc.heap.size:=by omega
 have hBc:B≤wc.heap.size:=by omega
 have hbw:b<wc.heap.size:=by omega
 have hiz:(i:Int)<(p.states.length:Int):=by omega
 have hwC':=aa hwC
 have hP3:=aa (hP2.below (hbc.mono hBb))
 have hT3:=aa (hT.below aW (hbc.mono hBb))
 have hK3:=aa (hK.below ai (hbc.mono hBb))
 have hC3:=aa (hC.below eD (hbc.mono hBb))
 have hcz':=aa hcz
 clear hcell hT hK hC hP2 hP hw hqz r1 r2 hbc hcb hcc hcz hwC hst
 replace hz2:=aa hz2
 replace hsc:=aa hsc
 have hjl:=(Bp.1 hj).1
 have hjz:(j:Int)<(s.takes.length:Int):=by omega
 obtain ⟨b',o',u,hA',hb',hcell',hr,hz⟩:=hT3.out.at1 hjl
 subst hA'
 cases hr
 rw [(Bp.1 hj).2] at hcell' hz
 have hbw':b'<wc.heap.size:=by omega
 have hb0:Below wc.heap.size wc wc:=Bi _ _
 have hg:=ax hb0 (Bm _)
 have hI:∀ b n d os,Hid (Calls prog 80 #[.bool b,.int .i64 n] (Bl (redrawn wc d) os) _):=fun b n d os=>aa (pp b n _)
 have hH:∀ d os,Hid (Calls prog 83 #[.agg (aq p A1 A2 (some ⟨b,o,none⟩) A4 A5 A6 A7 c1 c2 c3 c4 c5 c6 c7),.string nm] (Bl (redrawn wc d) os) _):=fun d os=>aa (cK _ A1 A2 (some ⟨b,o,none⟩) A4 A5 A6 A7 p c1 c2 c3 c4 c5 c6 c7 nm (hP3.out.grown hBc d os).1 (hP3.out.grown hBc d os).2)
 generalize ap p nm=zz at hH ⊢
 clear hb0 hi
 go_enter func87,ntmps87
 go_wp2_with fail
 refine cD ?_
 repeat (any_goals (first|go_big_quiet_step (first|(go_at_call 80;with_reducible exact Bh (hI _ _ _ _).out)|(go_at_call 83;with_reducible exact Bh (hH _ _).out))|quiet_step (first|(go_at_call 80;with_reducible exact Bh (hI _ _ _ _).out)|(go_at_call 83;with_reducible exact Bh (hH _ _).out))))
 refine wpQuiet_nil ?_
 intro w1 hw1
 replace hw1:=ac hw1
 go_wp2
 go_ret
 exact ⟨rfl,hwC'.out.trans (hw1.mono (by omega))⟩
theorem rj (A1 A2 A3 A4 A5 A6 A7:Option Addr) (p:Pg) (c1 c2 c3 c4 c5 c6 c7:Nat) (B i:Nat) (s:Sa) (j:Nat) (c:Ca) (s0 s1 s2 s3 s4 s5 s6 s7 s8 s9 s10 s11 s12 s13:Value) (w:World) (hB:B≤w.heap.size) (hP:bu w B A1 A2 A3 A4 A5 A6 A7 p) (hi:p.states[i]? =some s) (hj:s.cases_[j]? =some c):
  Calls prog 87 #[.agg (aq p A1 A2 A3 A4 A5 A6 A7 c1 c2 c3 c4 c5 c6 c7),.agg #[.int .u8 7,.int .i64 (i:Int),.int .i64 (j:Int),s0,s1,s2,s3,s4,s5,s6,s7,s8,s9,s10,s11,s12,s13]] w fun r w'=>r=.returned (.int .i64 (zO p c.dest))∧Below w.heap.size w w':=by
 unfold aq
 have hs:=Bp.1 hi
 obtain ⟨hlt,hst⟩:=hs
 obtain ⟨wa,hwa,hsa,wb,hwb,hsb,hw,hqz,hcb⟩:=ic w (aq p A1 A2 A3 A4 A5 A6 A7 c1 c2 c3 c4 c5 c6 c7) 30 #[.int .u8 7,.int .i64 (i:Int),.int .i64 (j:Int),s0,s1,s2,s3,s4,s5,s6,s7,s8,s9,s10,s11,s12,s13] 49
 obtain ⟨z0,z1,z2,z3,z4,z5,z6⟩:=aF (w:=wb) (a:=w.heap.size) fun i=>hqz i
 have y0:wb.cell? ⟨w.heap.size+1,0,none⟩=some (.int .u8 7):=hcb 0
 have y1:wb.cell? ⟨w.heap.size+1,1,none⟩=some (.int .i64 (i:Int)):=hcb 1
 have y2:wb.cell? ⟨w.heap.size+1,2,none⟩=some (.int .i64 (j:Int)):=hcb 2
 have hl1:w.heap.size<wb.heap.size:=by omega
 have hl2:w.heap.size+1<wb.heap.size:=by omega
 have hz2:w.heap.size+2=wb.heap.size:=by omega
 have hBb:B≤wb.heap.size:=by omega
 have hP2:=hP.below (hw.mono hB)
 have lst:=hP2.states.len
 obtain ⟨b,o,ecs,hA3,hb,hel,hcell,B1,d1,B2,d2,B3,d3,rfl,hn,hd,hT,hK,hC⟩:=hP2.states.2 i s hi
 subst hA3
 have m1:=hT.len
 have m2:=hK.len
 have m3:=hC.len
 obtain ⟨x0,x1,x2,x3,x4⟩:=cN hcell
 obtain ⟨wc,hwc,hsc,hbc,hcc,-⟩:=al wb #[.string s.name,.slice B1 s.takes.length d1,.string s.dest,.slice B2 s.keys.length d2,.slice B3 s.cases_.length d3] 61
 have hwC:=hw.trans (hbc.mono (by omega))
 have r1:∀ i,wc.cell? ⟨w.heap.size,i,none⟩=wb.cell? ⟨w.heap.size,i,none⟩:=fun i=>hbc.cell (p:=⟨w.heap.size,i,none⟩) (by show w.heap.size<_;omega)
 have r2:∀ i,wc.cell? ⟨w.heap.size+1,i,none⟩=wb.cell? ⟨w.heap.size+1,i,none⟩:=fun i=>hbc.cell (p:=⟨w.heap.size+1,i,none⟩) (by show w.heap.size+1<_;omega)
 have hcz:∀ i,wc.cell? ⟨w.heap.size,i,none⟩=(#[.slice A1 p.headers.length c1,.slice A2 p.metas.length c2,.slice (some ⟨b,o,none⟩) p.states.length c3,.slice A4 p.actions.length c4,.slice A5 p.tables.length c5,.slice A6 p.control.length c6,.slice A7 p.emit.length c7]:Array Value)[i]? :=fun i=>(r1 i).trans (hqz i)
 obtain ⟨f0,f1,f2,f3,f4,f5,f6⟩:=aF (w:=wc) (a:=w.heap.size) fun i=>hcz i
 have g0:wc.cell? ⟨w.heap.size+1,0,none⟩=some (.int .u8 7):=(r2 0).trans y0
 have g1:wc.cell? ⟨w.heap.size+1,1,none⟩=some (.int .i64 (i:Int)):=(r2 1).trans y1
 have g2:wc.cell? ⟨w.heap.size+1,2,none⟩=some (.int .i64 (j:Int)):=(r2 2).trans y2
 simp only [hsb,hsa] at hcc
 obtain ⟨v0,v1,v2,v3,v4⟩:=fR hcc
 have hk1:w.heap.size<wc.heap.size:=by omega
 have hk2:w.heap.size+1<wc.heap.size:=by omega
 have hk3:w.heap.size+1+1<wc.heap.size:=by omega
 have hBc:B≤wc.heap.size:=by omega
 have hbw:b<wc.heap.size:=by omega
 have hiz:(i:Int)<(p.states.length:Int):=by omega
 have hwC':=aa hwC
 have hP3:=aa (hP2.below (hbc.mono hBb))
 have hT3:=aa (hT.below aW (hbc.mono hBb))
 have hK3:=aa (hK.below ai (hbc.mono hBb))
 have hC3:=aa (hC.below eD (hbc.mono hBb))
 have hcz':=aa hcz
 clear hcell hT hK hC hP2 hP hw hqz r1 r2 hbc hcb hcc hcz hwC hst
 replace hz2:=aa hz2
 replace hsc:=aa hsc
 have hjl:=(Bp.1 hj).1
 have hjz:(j:Int)<(s.cases_.length:Int):=by omega
 obtain ⟨b',o',ecs',hA',hb',hel',hcell',B4,d4,rfl,hz,hS4⟩:=hC3.out.2 j c hj
 subst hA'
 have hbw':b'<wc.heap.size:=by omega
 obtain ⟨n0,n1,n2⟩:=dl hcell'
 have hX:=aa (xH A1 A2 (some ⟨b,o,none⟩) A4 A5 A6 A7 p c1 c2 c3 c4 c5 c6 c7 B w.heap.size c.dest wc hBc hP3.out hk1 hcz'.out)
 have eg:=oJ
 clear hi hcell' hS4
 go_enter func87,ntmps87
 go_wp2_with (go_at_fn 157;refine hX.out.mono ?_;rintro e w1 ⟨rfl,hw1⟩)
 go_ret
 exact ⟨rfl,hwC'.out.trans (hw1.mono (by omega))⟩
theorem rk (A1 A2 A3 A4 A5 A6 A7:Option Addr) (p:Pg) (c1 c2 c3 c4 c5 c6 c7:Nat) (B i:Nat) (s:Sa) (j:Int) (s0 s1 s2 s3 s4 s5 s6 s7 s8 s9 s10 s11 s12 s13:Value) (w:World) (hB:B≤w.heap.size) (hP:bu w B A1 A2 A3 A4 A5 A6 A7 p) (hi:p.states[i]? =some s):
  Calls prog 87 #[.agg (aq p A1 A2 A3 A4 A5 A6 A7 c1 c2 c3 c4 c5 c6 c7),.agg #[.int .u8 6,.int .i64 (i:Int),.int .i64 j,s0,s1,s2,s3,s4,s5,s6,s7,s8,s9,s10,s11,s12,s13]] w fun r w'=>r=.returned (.int .i64 (jh p s))∧Below w.heap.size w w':=by
 unfold aq
 have hs:=Bp.1 hi
 obtain ⟨hlt,hst⟩:=hs
 obtain ⟨wa,hwa,hsa,hba,hca,-⟩:=al w (aq p A1 A2 A3 A4 A5 A6 A7 c1 c2 c3 c4 c5 c6 c7) 30
 obtain ⟨wb,hwb,hsb,hbb,hcb,-⟩:=al wa #[.int .u8 6,.int .i64 (i:Int),.int .i64 j,s0,s1,s2,s3,s4,s5,s6,s7,s8,s9,s10,s11,s12,s13] 49
 have hw:=hba.trans (hbb.mono (by omega))
 have q:∀ i,wb.cell? ⟨w.heap.size,i,none⟩=wa.cell? ⟨w.heap.size,i,none⟩:=fun i=>hbb.cell (p:=⟨w.heap.size,i,none⟩) (by show w.heap.size<_;omega)
 have hqz:=fun i=>(q i).trans (hca i)
 obtain ⟨z0,z1,z2,z3,z4,z5,z6⟩:=aF (w:=wb) (a:=w.heap.size) fun i=>hqz i
 simp only [hsa] at hcb
 have y0:wb.cell? ⟨w.heap.size+1,0,none⟩=some (.int .u8 6):=hcb 0
 have y1:wb.cell? ⟨w.heap.size+1,1,none⟩=some (.int .i64 (i:Int)):=hcb 1
 have y2:wb.cell? ⟨w.heap.size+1,2,none⟩=some (.int .i64 j):=hcb 2
 have hl1:w.heap.size<wb.heap.size:=by omega
 have hl2:w.heap.size+1<wb.heap.size:=by omega
 have hz2:w.heap.size+2=wb.heap.size:=by omega
 have hBb:B≤wb.heap.size:=by omega
 have hP2:=hP.below (hw.mono hB)
 have lst:=hP2.states.len
 obtain ⟨b,o,ecs,hA3,hb,hel,hcell,B1,d1,B2,d2,B3,d3,rfl,hn,hd,hT,hK,hC⟩:=hP2.states.2 i s hi
 subst hA3
 have m1:=hT.len
 have m2:=hK.len
 have m3:=hC.len
 obtain ⟨x0,x1,x2,x3,x4⟩:=cN hcell
 obtain ⟨wc,hwc,hsc,hbc,hcc,-⟩:=al wb #[.string s.name,.slice B1 s.takes.length d1,.string s.dest,.slice B2 s.keys.length d2,.slice B3 s.cases_.length d3] 61
 have hwC:=hw.trans (hbc.mono (by omega))
 have r1:∀ i,wc.cell? ⟨w.heap.size,i,none⟩=wb.cell? ⟨w.heap.size,i,none⟩:=fun i=>hbc.cell (p:=⟨w.heap.size,i,none⟩) (by show w.heap.size<_;omega)
 have r2:∀ i,wc.cell? ⟨w.heap.size+1,i,none⟩=wb.cell? ⟨w.heap.size+1,i,none⟩:=fun i=>hbc.cell (p:=⟨w.heap.size+1,i,none⟩) (by show w.heap.size+1<_;omega)
 have hcz:∀ i,wc.cell? ⟨w.heap.size,i,none⟩=(#[.slice A1 p.headers.length c1,.slice A2 p.metas.length c2,.slice (some ⟨b,o,none⟩) p.states.length c3,.slice A4 p.actions.length c4,.slice A5 p.tables.length c5,.slice A6 p.control.length c6,.slice A7 p.emit.length c7]:Array Value)[i]? :=fun i=>(r1 i).trans (hqz i)
 obtain ⟨f0,f1,f2,f3,f4,f5,f6⟩:=aF (w:=wc) (a:=w.heap.size) fun i=>hcz i
 have g0:wc.cell? ⟨w.heap.size+1,0,none⟩=some (.int .u8 6):=(r2 0).trans y0
 have g1:wc.cell? ⟨w.heap.size+1,1,none⟩=some (.int .i64 (i:Int)):=(r2 1).trans y1
 have g2:wc.cell? ⟨w.heap.size+1,2,none⟩=some (.int .i64 j):=(r2 2).trans y2
 simp only [hsb,hsa] at hcc
 obtain ⟨v0,v1,v2,v3,v4⟩:=fR hcc
 have hk1:w.heap.size<wc.heap.size:=by omega
 have hk2:w.heap.size+1<wc.heap.size:=by omega
 have hk3:w.heap.size+1+1<wc.heap.size:=by omega
 have hBc:B≤wc.heap.size:=by omega
 have hbw:b<wc.heap.size:=by omega
 have hiz:(i:Int)<(p.states.length:Int):=by omega
 have hwC':=aa hwC
 have hP3:=aa (hP2.below (hbc.mono hBb))
 have hT3:=aa (hT.below aW (hbc.mono hBb))
 have hK3:=aa (hK.below ai (hbc.mono hBb))
 have hC3:=aa (hC.below eD (hbc.mono hBb))
 have hcz':=aa hcz
 clear hcell hT hK hC hP2 hP hw hqz q r1 r2 hbc hbb hba hca hcb hcc hcz hwC hst
 replace hz2:=aa hz2
 replace hsc:=aa hsc
 have eg:=oJ
 clear hi
 by_cases hdd:s.dest=aB
 ·have q1:(s.dest.toList== [])=true:=by rw [ak.1 hdd];rfl
  have q2:s.dest.toList.isEmpty=true:=by rw [ak.1 hdd];rfl
  have hv:=aa (show jh p s=cF (!s.keys.all (aU p (-1))) 7 from by unfold jh;rw [if_pos hdd])
  clear hdd eg
  have hc0:=ab (show Below wc.heap.size wc wc from Bi _ _)
  clear hc0
  go_enter func87,ntmps87
  go_wp2
  go_loopw [52] (fun n wr=>∃ k:Nat,k≤s.keys.length∧n=.int .i64 k∧Hid ((s.keys.take k).all (aU p (-1))=true)∧Hid (Below wc.heap.size wc wr)∧wc.heap.size≤wr.heap.size) (fun n _=>s.keys.length-(intOf n).toNat)
  case atStart=>exact ⟨0,Bo _,rfl,aa (by simp),aa (Bi _ _),Bm _⟩
  case round=>
   obtain ⟨k,hk,rfl,hall,hbr,hzr⟩:=hrel
   have hc:=ab hbr.out
   by_cases hltk:k<s.keys.length
   ·obtain ⟨b',o',ecs,hA',hb',hel',hcell',hr⟩:=hK3.out.2 k _ (Bk hltk)
    subst hA'
    have hltz:(k:Int)<(s.keys.length:Int):=by omega
    have hcall:=fun (wx:World) (h1:wc.heap.size≤wx.heap.size) (h2:Below wc.heap.size wc wx)=>kl A1 A2 (some ⟨b,o,none⟩) A4 A5 A6 A7 p c1 c2 c3 c4 c5 c6 c7 (-1) B s.keys[k] ecs wx (by omega) (hP3.out.below (h2.mono (by omega))) (ai.keep hr fun q hq=>(h2.mono (show B≤_ by omega)).cell hq)
    have ht:=aa (iE (f:=aU p (-1)) hltk)
    have hfa:aU p (-1) s.keys[k]=false→s.keys.all (aU p (-1))=false:=fun h=>by
     rw [List.all_eq_false];exact ⟨_,Bv hltk,by rw [h];simp⟩
    generalize s.keys[k]=x at hr ht hfa hcall
    have hnm:cZ p (-1) x=cF (!aU p (-1) x) 7:=rfl
    generalize cZ p (-1) x=nm at hcall hnm
    generalize aU p (-1) x=tx at ht hfa hnm
    obtain ⟨op',lit',head',name',hi',lo',args'⟩:=x
    obtain ⟨A',cap',rfl,-,-,-,-,-,-,hs'⟩:=RE.inv hr
    have hl':=hs'.len
    obtain ⟨n0,n1,n2,n3,n4,n5,n6,n7,n8⟩:=cl hcell'
    obtain ⟨wx,hwx,hzx,hbx,hcx,-⟩:=al wr (aO op' lit' head' name' hi' lo' A' args'.length cap') 45
    obtain ⟨u0,u1,u2,u3,u4,u5,u6,u7,u8⟩:=bU hcx
    have hbX:=hbr.out.trans (hbx.mono hzr)
    have hcX:=ab hbX
    have hX:Calls prog 91 #[.agg (aq p A1 A2 (some ⟨b,o,none⟩) A4 A5 A6 A7 c1 c2 c3 c4 c5 c6 c7),.int .i64 (-1),.agg (aO op' lit' head' name' hi' lo' A' args'.length cap')] wx _:=hcall wx (by omega) hbX
    replace hbX:=aa hbX
    have hb'':b'<wc.heap.size:=by omega
    clear hcell' hr hcx hbx hcall hs'
    cases tx with
    |true=>
     have hnz:nm=0:=hnm
     subst hnz
     have hX':=aa hX
     clear hX hnm hfa
     go_wp2_with (go_at_call 91;refine hX'.out.mono ?_;rintro e w1 ⟨rfl,hw1⟩)
     go_roundw
     case rel=>exact ⟨k+1,by omega,by go_num,aa (by rw [ht.out,hall.out];rfl),aa (hbX.out.trans (hw1.mono (by omega))),by have:=hw1.size;omega⟩
     case measure=>simp [intOf];omega
    |false=>
     have hnz:nm=7:=hnm
     subst hnz
     have hX':=aa hX
     have hfa':=aa (hfa rfl)
     clear hX hnm hfa
     go_wp2_with (go_at_call 91;refine hX'.out.mono ?_;rintro e w1 ⟨rfl,hw1⟩)
     go_ret
     exact ⟨ag (by rw [hv.out,hfa'.out];rfl),hwC'.out.trans ((hbX.out.trans (hw1.mono (by omega))).mono (by omega))⟩
   ·have hfull:=aa (show s.keys.all (aU p (-1))=true from by rw [←hall.out,BB (by omega)])
    go_wp2
    go_ret
    exact ⟨ag (by rw [hv.out,hfull.out];rfl),hwC'.out.trans (hbr.out.mono (by omega))⟩
 ·have q1:(s.dest.toList== [])=false:=by rw [beq_eq_false_iff_ne];exact fun h=>hdd (ak.2 h)
  have q2:s.dest.toList.isEmpty=false:=by rw [B9];exact fun h=>hdd (ak.2 h)
  have hv:=aa (show jh p s=zO p s.dest from by unfold jh;rw [if_neg hdd])
  have hX:=aa (xH A1 A2 (some ⟨b,o,none⟩) A4 A5 A6 A7 p c1 c2 c3 c4 c5 c6 c7 B w.heap.size s.dest wc hBc hP3.out hk1 hcz'.out)
  clear hdd
  go_enter func87,ntmps87
  go_wp2_with (go_at_fn 157;refine hX.out.mono ?_;rintro e w1 ⟨rfl,hw1⟩)
  go_ret
  exact ⟨ag hv.out.symm,hwC'.out.trans (hw1.mono (by omega))⟩
theorem jG (n m:Int) (a:Nat) (w:World) (h:w.cell? ⟨a,1,none⟩=some (.int .i64 m)):
  Calls prog 79 #[.int .i64 n,.pointer (some ⟨a,0,none⟩)] w fun r w'=>r=.returned (.int .i64 (cF (decide (n<m)) 8))∧Below w.heap.size w w':=by
 go_enter func79,ntmps79
 go_wp2_with (go_at_call 80;refine (mF _ _ _).mono ?_;rintro e w' ⟨rfl,rfl⟩)
 go_ret
 exact ⟨rfl,Bi _ _⟩
theorem ba:∀ args w,(callFunc 79 args).run prog w=.ok (.enter 79 args) w:=enters_of func79 (by kernel_rfl) rfl
theorem sV (A1 A2 A3 A4 A5 A6 A7:Option Addr) (p:Pg) (c1 c2 c3 c4 c5 c6 c7:Nat) (B i:Nat) (f:Fd) (s0 s1 s2 s3 s4 s5 s6 s7 s8 s9 s10 s11 s12 s13:Value) (w:World) (hB:B≤w.heap.size) (hP:bu w B A1 A2 A3 A4 A5 A6 A7 p) (hi:p.metas[i]? =some f):
  Calls prog 32 #[.agg (aq p A1 A2 A3 A4 A5 A6 A7 c1 c2 c3 c4 c5 c6 c7),.agg #[.int .u8 3,.int .i64 (i:Int),.int .i64 0,s0,s1,s2,s3,s4,s5,s6,s7,s8,s9,s10,s11,s12,s13]] w fun r w'=>r=.returned (.int .i64 (cF (decide (ct p f.1<(i:Int))) 8))∧Below w.heap.size w w':=by
 unfold aq
 obtain ⟨wa,hwa,hsa,wb,hwb,hsb,hw,hqz,hcb⟩:=ic w (aq p A1 A2 A3 A4 A5 A6 A7 c1 c2 c3 c4 c5 c6 c7) 30 #[.int .u8 3,.int .i64 (i:Int),.int .i64 0,s0,s1,s2,s3,s4,s5,s6,s7,s8,s9,s10,s11,s12,s13] 49
 obtain ⟨z0,z1,z2,z3,z4,z5,z6⟩:=aF (w:=wb) (a:=w.heap.size) fun i=>hqz i
 obtain ⟨y0,y1,y2,y3,y4,y5,y6,y7,y8,y9,y10,y11,y12,y13,y14,y15,y16⟩:=bv hcb
 have hl1:w.heap.size<wb.heap.size:=by omega
 have hl2:w.heap.size+1<wb.heap.size:=by omega
 have hz2:w.heap.size+2≤wb.heap.size:=by omega
 have hBb:B≤wb.heap.size:=by omega
 have hP2:=hP.below (hw.mono hB)
 have hb0:Below wb.heap.size wb wb:=Bi _ _
 have hwC:=aa hw
 replace hsb:=aa hsb
 have eg:=ba
 clear hP hqz hcb
 have lst:=hP2.metas.len
 obtain ⟨b,o,ecs,hA,hb,hel,hcell,rfl,hn,hi6⟩:=hP2.metas.2 i _ hi
 subst hA
 have x0:wb.cell? ⟨b,o+i*2,none⟩=some (.string f.1):=by simpa using hcell 0 _ rfl
 have x1:wb.cell? ⟨b,o+i*2+1,none⟩=some (.int .i64 f.2):=hcell 1 _ rfl
 have hbw:b<wb.heap.size:=by omega
 have hiz:(i:Int)<(p.metas.length:Int):=by have:=(Bp.1 hi).1;omega
 have hg:=ax hb0 hb0.size
 have hT:∀ n d os,Hid (Calls prog 79 #[.int .i64 n,.pointer (some ⟨w.heap.size+1,0,none⟩)] (Bl (redrawn wb d) os) _):=fun n d os=>aa (jG n (i:Int) (w.heap.size+1) _ ((hg d os _ _ (by omega)).trans y1))
 have hX:∀ d os,Hid (Calls prog 85 #[.agg (aq p A1 (some ⟨b,o,none⟩) A3 A4 A5 A6 A7 c1 c2 c3 c4 c5 c6 c7),.string f.1] (Bl (redrawn wb d) os) _):=fun d os=>aa (gL _ A1 (some ⟨b,o,none⟩) A3 A4 A5 A6 A7 p c1 c2 c3 c4 c5 c6 c7 f.1 (hP2.grown hBb d os).1 (hP2.grown hBb d os).2)
 generalize ct p f.1=zz at hX ⊢
 replace hP2:=aa hP2
 clear hb0 hcell hi
 go_enter func32,ntmps32
 go_wp2_with fail
 refine cD ?_
 repeat (any_goals (first|go_big_quiet_step (first|(go_at_fn 79;with_reducible exact Bh (hT _ _ _).out)|(go_at_call 85;with_reducible exact Bh (hX _ _).out))|quiet_step (first|(go_at_fn 79;with_reducible exact Bh (hT _ _ _).out)|(go_at_call 85;with_reducible exact Bh (hX _ _).out))))
 refine wpQuiet_nil ?_
 intro w1 hw1
 replace hw1:=ac hw1
 go_wp2
 go_ret
 exact ⟨rfl,hwC.out.trans (hw1.mono (by omega))⟩
theorem pL (A1 A2 A3 A4 A5 A6 A7:Option Addr) (p:Pg) (c1 c2 c3 c4 c5 c6 c7:Nat) (B i:Nat) (f:Ac) (s0 s1 s2 s3 s4 s5 s6 s7 s8 s9 s10 s11 s12 s13:Value) (w:World) (hB:B≤w.heap.size) (hP:bu w B A1 A2 A3 A4 A5 A6 A7 p) (hi:p.actions[i]? =some f):
  Calls prog 32 #[.agg (aq p A1 A2 A3 A4 A5 A6 A7 c1 c2 c3 c4 c5 c6 c7),.agg #[.int .u8 8,.int .i64 (i:Int),.int .i64 0,s0,s1,s2,s3,s4,s5,s6,s7,s8,s9,s10,s11,s12,s13]] w fun r w'=>r=.returned (.int .i64 (cF (decide (bz p f.name<(i:Int))) 8))∧Below w.heap.size w w':=by
 unfold aq
 obtain ⟨wa,hwa,hsa,wb,hwb,hsb,hw,hqz,hcb⟩:=ic w (aq p A1 A2 A3 A4 A5 A6 A7 c1 c2 c3 c4 c5 c6 c7) 30 #[.int .u8 8,.int .i64 (i:Int),.int .i64 0,s0,s1,s2,s3,s4,s5,s6,s7,s8,s9,s10,s11,s12,s13] 49
 obtain ⟨z0,z1,z2,z3,z4,z5,z6⟩:=aF (w:=wb) (a:=w.heap.size) fun i=>hqz i
 obtain ⟨y0,y1,y2,y3,y4,y5,y6,y7,y8,y9,y10,y11,y12,y13,y14,y15,y16⟩:=bv hcb
 have hl1:w.heap.size<wb.heap.size:=by omega
 have hl2:w.heap.size+1<wb.heap.size:=by omega
 have hz2:w.heap.size+2≤wb.heap.size:=by omega
 have hBb:B≤wb.heap.size:=by omega
 have hP2:=hP.below (hw.mono hB)
 have hb0:Below wb.heap.size wb wb:=Bi _ _
 have hwC:=aa hw
 replace hsb:=aa hsb
 have eg:=ba
 clear hP hqz hcb
 have lst:=hP2.actions.len
 obtain ⟨b,o,ecs,hA,hb,hel,hcell,B1,d1,B2,d2,rfl,hn,hF,hG⟩:=hP2.actions.2 i _ hi
 subst hA
 obtain ⟨x0,x1,x2⟩:=dl hcell
 have hbw:b<wb.heap.size:=by omega
 have hiz:(i:Int)<(p.actions.length:Int):=by have:=(Bp.1 hi).1;omega
 have hg:=ax hb0 hb0.size
 have hT:∀ n d os,Hid (Calls prog 79 #[.int .i64 n,.pointer (some ⟨w.heap.size+1,0,none⟩)] (Bl (redrawn wb d) os) _):=fun n d os=>aa (jG n (i:Int) (w.heap.size+1) _ ((hg d os _ _ (by omega)).trans y1))
 have hX:∀ d os,Hid (Calls prog 38 #[.agg (aq p A1 A2 A3 (some ⟨b,o,none⟩) A5 A6 A7 c1 c2 c3 c4 c5 c6 c7),.string f.name] (Bl (redrawn wb d) os) _):=fun d os=>aa (gc _ A1 A2 A3 (some ⟨b,o,none⟩) A5 A6 A7 p c1 c2 c3 c4 c5 c6 c7 f.name (hP2.grown hBb d os).1 (hP2.grown hBb d os).2)
 generalize bz p f.name=zz at hX ⊢
 replace hP2:=aa hP2
 clear hb0 hcell hi
 go_enter func32,ntmps32
 go_wp2_with fail
 refine cD ?_
 repeat (any_goals (first|go_big_quiet_step (first|(go_at_fn 79;with_reducible exact Bh (hT _ _ _).out)|(go_at_call 38;with_reducible exact Bh (hX _ _).out))|quiet_step (first|(go_at_fn 79;with_reducible exact Bh (hT _ _ _).out)|(go_at_call 38;with_reducible exact Bh (hX _ _).out))))
 refine wpQuiet_nil ?_
 intro w1 hw1
 replace hw1:=ac hw1
 go_wp2
 go_ret
 exact ⟨rfl,hwC.out.trans (hw1.mono (by omega))⟩
theorem rl (A1 A2 A3 A4 A5 A6 A7:Option Addr) (p:Pg) (c1 c2 c3 c4 c5 c6 c7:Nat) (B i:Nat) (f:Ta) (s0 s1 s2 s3 s4 s5 s6 s7 s8 s9 s10 s11 s12 s13:Value) (w:World) (hB:B≤w.heap.size) (hP:bu w B A1 A2 A3 A4 A5 A6 A7 p) (hi:p.tables[i]? =some f):
  Calls prog 32 #[.agg (aq p A1 A2 A3 A4 A5 A6 A7 c1 c2 c3 c4 c5 c6 c7),.agg #[.int .u8 11,.int .i64 (i:Int),.int .i64 0,s0,s1,s2,s3,s4,s5,s6,s7,s8,s9,s10,s11,s12,s13]] w fun r w'=>r=.returned (.int .i64 (cF (decide (eE p f.name<(i:Int))) 8))∧Below w.heap.size w w':=by
 unfold aq
 obtain ⟨wa,hwa,hsa,wb,hwb,hsb,hw,hqz,hcb⟩:=ic w (aq p A1 A2 A3 A4 A5 A6 A7 c1 c2 c3 c4 c5 c6 c7) 30 #[.int .u8 11,.int .i64 (i:Int),.int .i64 0,s0,s1,s2,s3,s4,s5,s6,s7,s8,s9,s10,s11,s12,s13] 49
 obtain ⟨z0,z1,z2,z3,z4,z5,z6⟩:=aF (w:=wb) (a:=w.heap.size) fun i=>hqz i
 obtain ⟨y0,y1,y2,y3,y4,y5,y6,y7,y8,y9,y10,y11,y12,y13,y14,y15,y16⟩:=bv hcb
 have hl1:w.heap.size<wb.heap.size:=by omega
 have hl2:w.heap.size+1<wb.heap.size:=by omega
 have hz2:w.heap.size+2≤wb.heap.size:=by omega
 have hBb:B≤wb.heap.size:=by omega
 have hP2:=hP.below (hw.mono hB)
 have hb0:Below wb.heap.size wb wb:=Bi _ _
 have hwC:=aa hw
 replace hsb:=aa hsb
 have eg:=ba
 clear hP hqz hcb
 have lst:=hP2.tables.len
 obtain ⟨b,o,ecs,hA,hb,hel,hcell,B1,d1,B2,d2,B3,d3,rfl,hn,hd,hF,hG,hH⟩:=hP2.tables.2 i _ hi
 subst hA
 obtain ⟨x0,x1,x2,x3,x4⟩:=cN hcell
 have hbw:b<wb.heap.size:=by omega
 have hiz:(i:Int)<(p.tables.length:Int):=by have:=(Bp.1 hi).1;omega
 have hg:=ax hb0 hb0.size
 have hT:∀ n d os,Hid (Calls prog 79 #[.int .i64 n,.pointer (some ⟨w.heap.size+1,0,none⟩)] (Bl (redrawn wb d) os) _):=fun n d os=>aa (jG n (i:Int) (w.heap.size+1) _ ((hg d os _ _ (by omega)).trans y1))
 have hX:∀ d os,Hid (Calls prog 90 #[.agg (aq p A1 A2 A3 A4 (some ⟨b,o,none⟩) A6 A7 c1 c2 c3 c4 c5 c6 c7),.string f.name] (Bl (redrawn wb d) os) _):=fun d os=>aa (ov _ A1 A2 A3 A4 (some ⟨b,o,none⟩) A6 A7 p c1 c2 c3 c4 c5 c6 c7 f.name (hP2.grown hBb d os).1 (hP2.grown hBb d os).2)
 generalize eE p f.name=zz at hX ⊢
 replace hP2:=aa hP2
 clear hb0 hcell hi
 go_enter func32,ntmps32
 go_wp2_with fail
 refine cD ?_
 repeat (any_goals (first|go_big_quiet_step (first|(go_at_fn 79;with_reducible exact Bh (hT _ _ _).out)|(go_at_call 90;with_reducible exact Bh (hX _ _).out))|quiet_step (first|(go_at_fn 79;with_reducible exact Bh (hT _ _ _).out)|(go_at_call 90;with_reducible exact Bh (hX _ _).out))))
 refine wpQuiet_nil ?_
 intro w1 hw1
 replace hw1:=ac hw1
 go_wp2
 go_ret
 exact ⟨rfl,hwC.out.trans (hw1.mono (by omega))⟩
theorem pM (A1 A2 A3 A4 A5 A6 A7:Option Addr) (p:Pg) (c1 c2 c3 c4 c5 c6 c7:Nat) (B i:Nat) (f:Hd) (s0 s1 s2 s3 s4 s5 s6 s7 s8 s9 s10 s11 s12 s13:Value) (w:World) (hB:B≤w.heap.size) (hP:bu w B A1 A2 A3 A4 A5 A6 A7 p) (hm:iJ f=true) (hi:p.headers[i]? =some f):
  Calls prog 32 #[.agg (aq p A1 A2 A3 A4 A5 A6 A7 c1 c2 c3 c4 c5 c6 c7),.agg #[.int .u8 1,.int .i64 (i:Int),.int .i64 0,s0,s1,s2,s3,s4,s5,s6,s7,s8,s9,s10,s11,s12,s13]] w fun r w'=>r=.returned (.int .i64 (aQ (cF (decide (ap p f.name<(i:Int))) 8) (cF (decide (dO f % 8≠0) ||decide (256<dO f)) 10)))∧Below w.heap.size w w':=by
 unfold aq
 obtain ⟨wa,hwa,hsa,wb,hwb,hsb,hw,hqz,hcb⟩:=ic w (aq p A1 A2 A3 A4 A5 A6 A7 c1 c2 c3 c4 c5 c6 c7) 30 #[.int .u8 1,.int .i64 (i:Int),.int .i64 0,s0,s1,s2,s3,s4,s5,s6,s7,s8,s9,s10,s11,s12,s13] 49
 obtain ⟨z0,z1,z2,z3,z4,z5,z6⟩:=aF (w:=wb) (a:=w.heap.size) fun i=>hqz i
 obtain ⟨y0,y1,y2,y3,y4,y5,y6,y7,y8,y9,y10,y11,y12,y13,y14,y15,y16⟩:=bv hcb
 have hl1:w.heap.size<wb.heap.size:=by omega
 have hl2:w.heap.size+1<wb.heap.size:=by omega
 have hz2:w.heap.size+2≤wb.heap.size:=by omega
 have hBb:B≤wb.heap.size:=by omega
 have hP2:=hP.below (hw.mono hB)
 have hb0:Below wb.heap.size wb wb:=Bi _ _
 have hwC:=aa hw
 replace hsb:=aa hsb
 have eg:=ba
 clear hP hqz hcb
 have lst:=hP2.headers.len
 obtain ⟨b,o,ecs,hA,hb,hel,hcell,B1,d1,rfl,hn,hF⟩:=hP2.headers.2 i _ hi
 subst hA
 have x0:wb.cell? ⟨b,o+i*2,none⟩=some (.string f.name):=by simpa using hcell 0 _ rfl
 have x1:wb.cell? ⟨b,o+i*2+1,none⟩=some (.slice B1 f.fields.length d1):=hcell 1 _ rfl
 have hbw:b<wb.heap.size:=by omega
 have hiz:(i:Int)<(p.headers.length:Int):=by have:=(Bp.1 hi).1;omega
 have hBt:=aa (xm f B1 d1 wb hBb hF hm)
 have hb2:=aa (show 0≤dO f∧dO f≤2048 from by
  simp only [iJ,Bn,decide_eq_true_eq] at hm
  have:=gM (l:=f.fields) fun x hx=>by
   have:=Bw.1 hm.2 x hx
   simp only [gB,cE,Bn,decide_eq_true_eq] at this
   exact this.2
  have e:dO f=dn f.fields:=rfl
  rw [e];omega)
 generalize dO f=n at hBt hb2 ⊢
 obtain ⟨n0,n1⟩:=hb2.out
 have hlf:=hF.len
 replace hP2:=aa hP2
 have eg1:=aa eg
 clear hcell hi hm hF hb2
 generalize hmm:n.tmod 8=m at*
 have hme:n % 8=m:=by rw [←hmm,Int.tmod_eq_emod_of_nonneg n0]
 have hv:=aa (show (decide (n % 8≠0) ||decide (256<n))=((m !=0) ||decide (256<n)) from by rw [hme];congr 1;rw [Bool.eq_iff_iff];simp)
 go_enter func32,ntmps32
 go_wp2_with (go_at_call 81;refine hBt.out.mono ?_;rintro e w1 ⟨rfl,hw1⟩)
 have hB1:B≤w1.heap.size:=by have:=hw1.size;omega
 have hc1:=ab hw1
 have hP1:=hP2.out.below (hw1.mono hBb)
 have hg:=ax hw1 hw1.size
 have hI:∀ b n d os,Hid (Calls prog 80 #[.bool b,.int .i64 n] (Bl (redrawn w1 d) os) _):=fun b n d os=>aa (pp b n _)
 have hE:∀ x y d os,Hid (Calls prog 82 #[.int .i64 x,.int .i64 y] (Bl (redrawn w1 d) os) _):=fun x y d os=>aa (fH x y _)
 have hT:∀ n d os,Hid (Calls prog 79 #[.int .i64 n,.pointer (some ⟨w.heap.size+1,0,none⟩)] (Bl (redrawn w1 d) os) _):=fun n d os=>aa (jG n (i:Int) (w.heap.size+1) _ ((hg d os _ _ (by omega)).trans y1))
 have hX:∀ d os,Hid (Calls prog 83 #[.agg (aq p (some ⟨b,o,none⟩) A2 A3 A4 A5 A6 A7 c1 c2 c3 c4 c5 c6 c7),.string f.name] (Bl (redrawn w1 d) os) _):=fun d os=>aa (cK _ (some ⟨b,o,none⟩) A2 A3 A4 A5 A6 A7 p c1 c2 c3 c4 c5 c6 c7 f.name (hP1.grown hB1 d os).1 (hP1.grown hB1 d os).2)
 generalize hzz:ap p f.name=zz at hX
 replace hzz:=aa hzz
 replace hP1:=aa hP1
 replace hw1:=aa hw1
 cases hb8:(m !=0)
 all_goals
  rw [hb8] at hv
  refine cD ?_
  repeat (any_goals (first|go_big_quiet_step (first|(go_at_fn 79;with_reducible exact Bh (hT _ _ _).out)|(go_at_call 80;with_reducible exact Bh (hI _ _ _ _).out)|(go_at_call 82;with_reducible exact Bh (hE _ _ _ _).out)|(go_at_call 83;with_reducible exact Bh (hX _ _).out))|quiet_step (first|(go_at_fn 79;with_reducible exact Bh (hT _ _ _).out)|(go_at_call 80;with_reducible exact Bh (hI _ _ _ _).out)|(go_at_call 82;with_reducible exact Bh (hE _ _ _ _).out)|(go_at_call 83;with_reducible exact Bh (hX _ _).out))))
  refine wpQuiet_nil ?_
  intro w2 hw2
  replace hw2:=ac hw2
  go_wp2
  go_ret
  exact ⟨ag (by rw [hv.out,hzz.out];rfl),(hwC.out.trans (hw1.out.mono (by omega))).trans (hw2.mono (by have:=hw1.out.size;omega))⟩
theorem ro (A1 A2 A3 A4 A5 A6 A7:Option Addr) (p:Pg) (c1 c2 c3 c4 c5 c6 c7:Nat) (B i:Nat) (j:Nat) (f:Hd) (g:Fd) (s0 s1 s2 s3 s4 s5 s6 s7 s8 s9 s10 s11 s12 s13:Value) (w:World) (hB:B≤w.heap.size) (hP:bu w B A1 A2 A3 A4 A5 A6 A7 p) (hi:p.headers[i]? =some f) (hj:f.fields[j]? =some g):
  Calls prog 32 #[.agg (aq p A1 A2 A3 A4 A5 A6 A7 c1 c2 c3 c4 c5 c6 c7),.agg #[.int .u8 2,.int .i64 (i:Int),.int .i64 (j:Int),s0,s1,s2,s3,s4,s5,s6,s7,s8,s9,s10,s11,s12,s13]] w fun r w'=>r=.returned (.int .i64 (cF (decide (aJ p (i:Int) g.1<(j:Int))) 8))∧Below w.heap.size w w':=by
 unfold aq
 obtain ⟨wa,hwa,hsa,wb,hwb,hsb,hw,hqz,hcb⟩:=ic w (aq p A1 A2 A3 A4 A5 A6 A7 c1 c2 c3 c4 c5 c6 c7) 30 #[.int .u8 2,.int .i64 (i:Int),.int .i64 (j:Int),s0,s1,s2,s3,s4,s5,s6,s7,s8,s9,s10,s11,s12,s13] 49
 obtain ⟨z0,z1,z2,z3,z4,z5,z6⟩:=aF (w:=wb) (a:=w.heap.size) fun i=>hqz i
 obtain ⟨y0,y1,y2,y3,y4,y5,y6,y7,y8,y9,y10,y11,y12,y13,y14,y15,y16⟩:=bv hcb
 have hl1:w.heap.size<wb.heap.size:=by omega
 have hl2:w.heap.size+1<wb.heap.size:=by omega
 have hz2:w.heap.size+2≤wb.heap.size:=by omega
 have hBb:B≤wb.heap.size:=by omega
 have hP2:=hP.below (hw.mono hB)
 have hb0:Below wb.heap.size wb wb:=Bi _ _
 have hwC:=aa hw
 replace hsb:=aa hsb
 have eg:=ba
 clear hP hqz hcb
 have lst:=hP2.headers.len
 obtain ⟨b,o,ecs,hA,hb,hel,hcell,B1,d1,rfl,hn,hF⟩:=hP2.headers.2 i _ hi
 subst hA
 have x0:wb.cell? ⟨b,o+i*2,none⟩=some (.string f.name):=by simpa using hcell 0 _ rfl
 have x1:wb.cell? ⟨b,o+i*2+1,none⟩=some (.slice B1 f.fields.length d1):=hcell 1 _ rfl
 have hbw:b<wb.heap.size:=by omega
 have hiz:(i:Int)<(p.headers.length:Int):=by have:=(Bp.1 hi).1;omega
 have hlf:=hF.len
 obtain ⟨b',o',ecs',hA',hb',hel',hcell',rfl,hz,hi6⟩:=hF.2 j _ hj
 subst hA'
 have n0:wb.cell? ⟨b',o'+j*2,none⟩=some (.string g.1):=by simpa using hcell' 0 _ rfl
 have n1:wb.cell? ⟨b',o'+j*2+1,none⟩=some (.int .i64 g.2):=hcell' 1 _ rfl
 have hbw':b'<wb.heap.size:=by omega
 have hjz:(j:Int)<(f.fields.length:Int):=by have:=(Bp.1 hj).1;omega
 have hg:=ax hb0 hb0.size
 have hI:∀ b n d os,Hid (Calls prog 80 #[.bool b,.int .i64 n] (Bl (redrawn wb d) os) _):=fun b n d os=>aa (pp b n _)
 have hX:∀ d os,Hid (Calls prog 84 #[.agg (aq p (some ⟨b,o,none⟩) A2 A3 A4 A5 A6 A7 c1 c2 c3 c4 c5 c6 c7),.int .i64 (i:Int),.string g.1] (Bl (redrawn wb d) os) _):=fun d os=>aa (fG _ (some ⟨b,o,none⟩) A2 A3 A4 A5 A6 A7 p c1 c2 c3 c4 c5 c6 c7 ((i:Int)) g.1 (hP2.grown hBb d os).1 (hP2.grown hBb d os).2)
 generalize aJ p (i:Int) g.1=zz at hX ⊢
 replace hP2:=aa hP2
 clear hb0 hcell hcell' hi hj eg
 go_enter func32,ntmps32
 go_wp2_with fail
 refine cD ?_
 repeat (any_goals (first|go_big_quiet_step (first|(go_at_call 80;with_reducible exact Bh (hI _ _ _ _).out)|(go_at_call 84;with_reducible exact Bh (hX _ _).out))|quiet_step (first|(go_at_call 80;with_reducible exact Bh (hI _ _ _ _).out)|(go_at_call 84;with_reducible exact Bh (hX _ _).out))))
 refine wpQuiet_nil ?_
 intro w1 hw1
 replace hw1:=ac hw1
 go_wp2
 go_ret
 exact ⟨rfl,hwC.out.trans (hw1.mono (by omega))⟩
theorem rp (A1 A2 A3 A4 A5 A6 A7:Option Addr) (p:Pg) (c1 c2 c3 c4 c5 c6 c7:Nat) (B i:Nat) (j:Nat) (f:Ac) (g:Fd) (s0 s1 s2 s3 s4 s5 s6 s7 s8 s9 s10 s11 s12 s13:Value) (w:World) (hB:B≤w.heap.size) (hP:bu w B A1 A2 A3 A4 A5 A6 A7 p) (hi:p.actions[i]? =some f) (hj:f.params[j]? =some g):
  Calls prog 32 #[.agg (aq p A1 A2 A3 A4 A5 A6 A7 c1 c2 c3 c4 c5 c6 c7),.agg #[.int .u8 9,.int .i64 (i:Int),.int .i64 (j:Int),s0,s1,s2,s3,s4,s5,s6,s7,s8,s9,s10,s11,s12,s13]] w fun r w'=>r=.returned (.int .i64 (cF (decide (aL p (i:Int) g.1<(j:Int))) 8))∧Below w.heap.size w w':=by
 unfold aq
 obtain ⟨wa,hwa,hsa,wb,hwb,hsb,hw,hqz,hcb⟩:=ic w (aq p A1 A2 A3 A4 A5 A6 A7 c1 c2 c3 c4 c5 c6 c7) 30 #[.int .u8 9,.int .i64 (i:Int),.int .i64 (j:Int),s0,s1,s2,s3,s4,s5,s6,s7,s8,s9,s10,s11,s12,s13] 49
 obtain ⟨z0,z1,z2,z3,z4,z5,z6⟩:=aF (w:=wb) (a:=w.heap.size) fun i=>hqz i
 obtain ⟨y0,y1,y2,y3,y4,y5,y6,y7,y8,y9,y10,y11,y12,y13,y14,y15,y16⟩:=bv hcb
 have hl1:w.heap.size<wb.heap.size:=by omega
 have hl2:w.heap.size+1<wb.heap.size:=by omega
 have hz2:w.heap.size+2≤wb.heap.size:=by omega
 have hBb:B≤wb.heap.size:=by omega
 have hP2:=hP.below (hw.mono hB)
 have hb0:Below wb.heap.size wb wb:=Bi _ _
 have hwC:=aa hw
 replace hsb:=aa hsb
 have eg:=ba
 clear hP hqz hcb
 have lst:=hP2.actions.len
 obtain ⟨b,o,ecs,hA,hb,hel,hcell,B1,d1,B2,d2,rfl,hn,hF,hG⟩:=hP2.actions.2 i _ hi
 subst hA
 obtain ⟨x0,x1,x2⟩:=dl hcell
 have hbw:b<wb.heap.size:=by omega
 have hiz:(i:Int)<(p.actions.length:Int):=by have:=(Bp.1 hi).1;omega
 have hlf:=hF.len
 obtain ⟨b',o',ecs',hA',hb',hel',hcell',rfl,hz,hi6⟩:=hF.2 j _ hj
 subst hA'
 have n0:wb.cell? ⟨b',o'+j*2,none⟩=some (.string g.1):=by simpa using hcell' 0 _ rfl
 have n1:wb.cell? ⟨b',o'+j*2+1,none⟩=some (.int .i64 g.2):=hcell' 1 _ rfl
 have hbw':b'<wb.heap.size:=by omega
 have hjz:(j:Int)<(f.params.length:Int):=by have:=(Bp.1 hj).1;omega
 have hg:=ax hb0 hb0.size
 have hI:∀ b n d os,Hid (Calls prog 80 #[.bool b,.int .i64 n] (Bl (redrawn wb d) os) _):=fun b n d os=>aa (pp b n _)
 have hX:∀ d os,Hid (Calls prog 88 #[.agg (aq p A1 A2 A3 (some ⟨b,o,none⟩) A5 A6 A7 c1 c2 c3 c4 c5 c6 c7),.int .i64 (i:Int),.string g.1] (Bl (redrawn wb d) os) _):=fun d os=>aa (ki _ A1 A2 A3 (some ⟨b,o,none⟩) A5 A6 A7 p c1 c2 c3 c4 c5 c6 c7 ((i:Int)) g.1 (hP2.grown hBb d os).1 (hP2.grown hBb d os).2)
 generalize aL p (i:Int) g.1=zz at hX ⊢
 replace hP2:=aa hP2
 clear hb0 hcell hcell' hi hj eg
 go_enter func32,ntmps32
 go_wp2_with fail
 refine cD ?_
 repeat (any_goals (first|go_big_quiet_step (first|(go_at_call 80;with_reducible exact Bh (hI _ _ _ _).out)|(go_at_call 88;with_reducible exact Bh (hX _ _).out))|quiet_step (first|(go_at_call 80;with_reducible exact Bh (hI _ _ _ _).out)|(go_at_call 88;with_reducible exact Bh (hX _ _).out))))
 refine wpQuiet_nil ?_
 intro w1 hw1
 replace hw1:=ac hw1
 go_wp2
 go_ret
 exact ⟨rfl,hwC.out.trans (hw1.mono (by omega))⟩
end Go.Proofs.YtbbdhknagofghaaGreat

import Derived.Test.YtbbdhknagofghaaGreatTcp45
import Derived.Test.YtbbdhknagofghaaGreatTcp34
set_option linter.all false
set_option maxHeartbeats 16000000
set_option maxRecDepth 100000
open Go.Proofs.Tryz
namespace Go.Proofs.YtbbdhknagofghaaGreat
open _root_.Go.Calls renaming regrown_of→Bh
open _root_.Go.RowKit.Below renaming refl→Bi
open _root_.Nat renaming le_trans→Bj, le_refl→Bm, zero_le→Bo
open _root_.List renaming getElem?_eq_getElem→Bk, getElem?_eq_some_iff→Bp, take_of_length_le→BB, isEmpty_eq_false_iff→B9
open _root_.Go.Sort renaming grow→Bl
open Go.RowKit
theorem pY (gf:Nat) (lb:Array Value) (eg:∀ args w,(callFunc gf args).run prog w=.ok (.enter gf args) w) (xs:List It) (hl:xs.length≤dd) (B:Nat) (w:World) (hB:B≤w.heap.size) (hseq:pQ prog gf lb (zB B) lv xs (fun _=>true) (fun W=>Below w.heap.size w W) w):
  Calls prog 33 #[.func (.func gf) #[] lb] w fun e w'=>∃ v base,e=.returned v∧dq w' base B v xs∧Below w.heap.size w w':=by
 have hc:=aa (ng gf lb eg xs hl B w hB hseq)
 go_enter func33,ntmps33
 go_wp2_with (go_at_call 94;refine hc.out.mono ?_;rintro e w' ⟨v,base,rfl,hv,hb⟩)
 go_ret
 exact ⟨v,base,rfl,hv,hb⟩
theorem tP (A1 A2 A3 A4 A5 A6 A7:Option Addr) (p:Pg) (c1 c2 c3 c4 c5 c6 c7:Nat) (B:Nat) (w:World) (hB:B≤w.heap.size) (hP:bu w B A1 A2 A3 A4 A5 A6 A7 p) (hbig:(ao p).length≤dd):
  Calls prog 18 #[.agg (aq p A1 A2 A3 A4 A5 A6 A7 c1 c2 c3 c4 c5 c6 c7)] w fun e w'=>(∃ A cap,e=.returned (.slice A (ao p).length cap)∧Sl 17 oL w' w'.heap.size A (ao p))∧Below w.heap.size w w':=by
 unfold aq
 obtain ⟨wu,hwu,hsu,hbu,hcu,-⟩:=al w (aq p A1 A2 A3 A4 A5 A6 A7 c1 c2 c3 c4 c5 c6 c7) 30
 obtain ⟨u0,u1,u2,u3,u4,u5,u6⟩:=aF hcu
 have hl1:w.heap.size<wu.heap.size:=by omega
 obtain ⟨wx,hwx⟩:∃ wx,wu.alloc (.cells #[.slice A1 p.headers.length c1,.slice A2 p.metas.length c2,.slice A3 p.states.length c3,.slice A4 p.actions.length c4,.slice A5 p.tables.length c5,.slice A6 p.control.length c6,.slice A7 p.emit.length c7] 30)=wx:=⟨_,rfl⟩
 have hbx:Below wu.heap.size wu wx:=by rw [←hwx];exact (Bi _ _).alloc (Bm _) _
 have hsx:wx.heap.size=wu.heap.size+1:=by rw [←hwx];simp
 have hox:wx.heap[wu.heap.size]? =some (.cells #[.slice A1 p.headers.length c1,.slice A2 p.metas.length c2,.slice A3 p.states.length c3,.slice A4 p.actions.length c4,.slice A5 p.tables.length c5,.slice A6 p.control.length c6,.slice A7 p.emit.length c7] 30):=by rw [←hwx];exact World.alloc_heap_new wu _
 have hwB:=hbu.trans (hbx.mono (by omega))
 have hBx:B≤wx.heap.size:=by omega
 have hPx:=hP.below (hwB.mono hB)
 have hA:=aa (um A1 A2 A3 A4 A5 A6 A7 p c1 c2 c3 c4 c5 c6 c7 wu)
 have hC:=aa (pY 70 #[.pointer (some ⟨wu.heap.size,0,none⟩)] lC (ao p) hbig B wx hBx (oT (w0:=wx) (B:=B) (fun _=>true) A1 A2 A3 A4 A5 A6 A7 p c1 c2 c3 c4 c5 c6 c7 hPx hBx wu.heap.size wx hBx hox))
 rw [hwx] at hA
 have hw:=aa hwB
 clear hcu hP hPx hwB hbx hbu hox
 replace hsu:=aa hsu
 replace hwx:=aa hwx
 replace hsx:=aa hsx
 have hBx':=aa hBx
 go_enter func18,ntmps18
 go_wp2_with (first|(go_at_call 31;with_reducible refine hA.out.mono ?_;rintro e w3 ⟨rfl,rfl⟩)|(go_at_call 33;with_reducible refine hC.out.mono ?_;rintro e w4 ⟨v,base,rfl,hv,hb4⟩))
 go_ret
 obtain ⟨A,cap,rfl,hS⟩:=hv.sl (Bj hBx'.out hb4.size) hbig
 exact ⟨⟨A,cap,rfl,hS⟩,hw.out.trans (hb4.mono (by have:=hw.out.size;omega))⟩
def lP (p:Pg):Int×Int:=if (aZ p).2=0 then eT p (ao p) 0 (aZ p).1 else aZ p
theorem tQ (A1 A2 A3 A4 A5 A6 A7:Option Addr) (p:Pg) (c1 c2 c3 c4 c5 c6 c7:Nat) (B:Nat) (w:World) (hB:B≤w.heap.size) (hP:bu w B A1 A2 A3 A4 A5 A6 A7 p) (hcap:jH w A5 p) (hbig:bg p=true→(ao p).length≤dd)
  (hMay:∀ W,B≤W.heap.size→Below w.heap.size w W→Calls prog 30 #[.agg (aq p A1 A2 A3 A4 A5 A6 A7 c1 c2 c3 c4 c5 c6 c7)] W fun e W'=>e=.returned (.bool (bg p))∧Below W.heap.size W W'):
  Calls prog 7 #[.agg (aq p A1 A2 A3 A4 A5 A6 A7 c1 c2 c3 c4 c5 c6 c7)] w fun e w'=>e=.returned (.tuple #[.int .i64 (lP p).1,.int .i64 (lP p).2])∧Below w.heap.size w w':=by
 unfold aq
 have hC:∀ W,Below w.heap.size w W→Calls prog 17 #[.agg (aq p A1 A2 A3 A4 A5 A6 A7 c1 c2 c3 c4 c5 c6 c7)] W fun e W'=>e=.returned (.tuple #[.int .i64 (aZ p).1,.int .i64 (aZ p).2])∧Below W.heap.size W W':=fun W hW=>
  rR A1 A2 A3 A4 A5 A6 A7 p c1 c2 c3 c4 c5 c6 c7 B W (Bj hB hW.size) (hP.below (hW.mono hB)) fun W' h1 h2=>hMay W' h1 (hW.trans (h2.mono hW.size))
 unfold lP
 by_cases h:(aZ p).2=0
 ·rw [if_pos h]
  have hm:bg p=true:=by
   cases hm:bg p with
   |true=>rfl
   |false=>unfold aZ at h;rw [hm] at h;cases h
  have hok:∀ x∈ao p,aH p x=0:=by
   unfold aZ at h
   rw [if_pos hm] at h
   exact (gT _ _ h).2
  refine th A1 A2 A3 A4 A5 A6 A7 p c1 c2 c3 c4 c5 c6 c7 B hm (aZ p).1 (ao p) w hB hP hcap (fun W hW=>by rw [←h];exact hC W hW) (fun W hW=>tP A1 A2 A3 A4 A5 A6 A7 p c1 c2 c3 c4 c5 c6 c7 B W (Bj hB hW.size) (hP.below (hW.mono hB)) (hbig hm)) (rA hm hok)
 ·rw [if_neg h]
  exact tO A1 A2 A3 A4 A5 A6 A7 p c1 c2 c3 c4 c5 c6 c7 (aZ p).1 (aZ p).2 h w hC
def ni (p:Pg) (s:Sa):Bool:=if s.dest=aB then s.keys.all (aU p (-1)) else cA p s.dest
theorem nM (A1 A2 A3 A4 A5 A6 A7:Option Addr) (p:Pg) (c1 c2 c3 c4 c5 c6 c7:Nat) (B i:Nat) (s:Sa) (j:Nat) (nm:ByteArray) (s0 s1 s2 s3 s4 s5 s6 s7 s8 s9 s10 s11 s12 s13:Value) (w:World) (hB:B≤w.heap.size) (hP:bu w B A1 A2 A3 A4 A5 A6 A7 p) (hi:p.states[i]? =some s) (hj:s.takes[j]? =some nm):
  Calls prog 106 #[.agg (aq p A1 A2 A3 A4 A5 A6 A7 c1 c2 c3 c4 c5 c6 c7),.agg #[.int .u8 5,.int .i64 (i:Int),.int .i64 (j:Int),s0,s1,s2,s3,s4,s5,s6,s7,s8,s9,s10,s11,s12,s13]] w fun r w'=>r=.returned (.bool (decide (0≤ap p nm)))∧Below w.heap.size w w':=by
 unfold aq
 have hs:=Bp.1 hi
 obtain ⟨hlt,hst⟩:=hs
 obtain ⟨wa,hwa,hsa,wb,hwb,hsb,hw,hqz,hcb⟩:=ic w (aq p A1 A2 A3 A4 A5 A6 A7 c1 c2 c3 c4 c5 c6 c7) 30 #[.int .u8 5,.int .i64 (i:Int),.int .i64 (j:Int),s0,s1,s2,s3,s4,s5,s6,s7,s8,s9,s10,s11,s12,s13] 49
 obtain ⟨z0,z1,z2,z3,z4,z5,z6⟩:=aF (w:=wb) (a:=w.heap.size) fun i=>hqz i
 have y0:wb.cell? ⟨w.heap.size+1,0,none⟩=some (.int .u8 5):=hcb 0
 have y1:wb.cell? ⟨w.heap.size+1,1,none⟩=some (.int .i64 (i:Int)):=hcb 1
 have y2:wb.cell? ⟨w.heap.size+1,2,none⟩=some (.int .i64 (j:Int)):=hcb 2
 have hl1:w.heap.size<wb.heap.size:=by omega
 have hl2:w.heap.size+1<wb.heap.size:=by omega
 have hz2:w.heap.size+2=wb.heap.size:=by omega
 have hBb:B≤wb.heap.size:=by omega
 have hP2:=hP.below (hw.mono hB)
 have lst:=hP2.states.len
 obtain ⟨b,o,ecs,hA3,hb,hel,hcell,B1,d1,B2,d2,B3,d3,rfl,hn,hd,hT,hK,hC⟩:=hP2.states.2 i s hi
 subst hA3
 have m1:=hT.len
 have m2:=hK.len
 have m3:=hC.len
 obtain ⟨x0,x1,x2,x3,x4⟩:=cN hcell
 obtain ⟨wc,hwc,hsc,hbc,hcc,-⟩:=al wb #[.string s.name,.slice B1 s.takes.length d1,.string s.dest,.slice B2 s.keys.length d2,.slice B3 s.cases_.length d3] 61
 have hwC:=hw.trans (hbc.mono (by omega))
 have r1:∀ i,wc.cell? ⟨w.heap.size,i,none⟩=wb.cell? ⟨w.heap.size,i,none⟩:=fun i=>hbc.cell (p:=⟨w.heap.size,i,none⟩) (by show w.heap.size<_;omega)
 have r2:∀ i,wc.cell? ⟨w.heap.size+1,i,none⟩=wb.cell? ⟨w.heap.size+1,i,none⟩:=fun i=>hbc.cell (p:=⟨w.heap.size+1,i,none⟩) (by show w.heap.size+1<_;omega)
 have hcz:∀ i,wc.cell? ⟨w.heap.size,i,none⟩=(#[.slice A1 p.headers.length c1,.slice A2 p.metas.length c2,.slice (some ⟨b,o,none⟩) p.states.length c3,.slice A4 p.actions.length c4,.slice A5 p.tables.length c5,.slice A6 p.control.length c6,.slice A7 p.emit.length c7]:Array Value)[i]? :=fun i=>(r1 i).trans (hqz i)
 obtain ⟨f0,f1,f2,f3,f4,f5,f6⟩:=aF (w:=wc) (a:=w.heap.size) fun i=>hcz i
 have g0:wc.cell? ⟨w.heap.size+1,0,none⟩=some (.int .u8 5):=(r2 0).trans y0
 have g1:wc.cell? ⟨w.heap.size+1,1,none⟩=some (.int .i64 (i:Int)):=(r2 1).trans y1
 have g2:wc.cell? ⟨w.heap.size+1,2,none⟩=some (.int .i64 (j:Int)):=(r2 2).trans y2
 simp only [hsb,hsa] at hcc
 obtain ⟨v0,v1,v2,v3,v4⟩:=fR hcc
 have hk1:w.heap.size<wc.heap.size:=by omega
 have hk2:w.heap.size+1<wc.heap.size:=by omega
 have hk3:w.heap.size+1+1<wc.heap.size:=by omega
 have hBc:B≤wc.heap.size:=by omega
 have hbw:b<wc.heap.size:=by omega
 have hiz:(i:Int)<(p.states.length:Int):=by omega
 have hwC':=aa hwC
 have hP3:=aa (hP2.below (hbc.mono hBb))
 have hT3:=aa (hT.below aW (hbc.mono hBb))
 have hK3:=aa (hK.below ai (hbc.mono hBb))
 have hC3:=aa (hC.below eD (hbc.mono hBb))
 have hcz':=aa hcz
 clear hcell hT hK hC hP2 hP hw hqz r1 r2 hbc hcb hcc hcz hwC hst
 replace hz2:=aa hz2
 replace hsc:=aa hsc
 have hjl:=(Bp.1 hj).1
 have hjz:(j:Int)<(s.takes.length:Int):=by omega
 obtain ⟨b',o',u,hA',hb',hcell',hr,hz⟩:=hT3.out.at1 hjl
 subst hA'
 cases hr
 rw [(Bp.1 hj).2] at hcell' hz
 have hbw':b'<wc.heap.size:=by omega
 have hb0:Below wc.heap.size wc wc:=Bi _ _
 have hg:=ax hb0 (Bm _)
 have hX:∀ d os,Hid (Calls prog 115 #[.agg (aq p A1 A2 (some ⟨b,o,none⟩) A4 A5 A6 A7 c1 c2 c3 c4 c5 c6 c7),.string nm] (Bl (redrawn wc d) os) _):=fun d os=>aa (cC _ A1 A2 (some ⟨b,o,none⟩) A4 A5 A6 A7 p c1 c2 c3 c4 c5 c6 c7 nm (hP3.out.grown hBc d os).1 (hP3.out.grown hBc d os).2)
 generalize ap p nm=zz at hX ⊢
 clear hb0 hi
 go_enter func106,ntmps106
 go_wp2_with fail
 refine cD ?_
 repeat (any_goals (first|go_big_quiet_step (first|(go_at_call 115;with_reducible exact Bh (hX _ _).out))|quiet_step (first|(go_at_call 115;with_reducible exact Bh (hX _ _).out))))
 refine wpQuiet_nil ?_
 intro w1 hw1
 replace hw1:=ac hw1
 go_wp2
 go_ret
 exact ⟨ah (by first|rfl|simp),hwC'.out.trans (hw1.mono (by omega))⟩
theorem nN (A1 A2 A3 A4 A5 A6 A7:Option Addr) (p:Pg) (c1 c2 c3 c4 c5 c6 c7:Nat) (B i:Nat) (s:Sa) (j:Nat) (c:Ca) (s0 s1 s2 s3 s4 s5 s6 s7 s8 s9 s10 s11 s12 s13:Value) (w:World) (hB:B≤w.heap.size) (hP:bu w B A1 A2 A3 A4 A5 A6 A7 p) (hi:p.states[i]? =some s) (hj:s.cases_[j]? =some c):
  Calls prog 106 #[.agg (aq p A1 A2 A3 A4 A5 A6 A7 c1 c2 c3 c4 c5 c6 c7),.agg #[.int .u8 7,.int .i64 (i:Int),.int .i64 (j:Int),s0,s1,s2,s3,s4,s5,s6,s7,s8,s9,s10,s11,s12,s13]] w fun r w'=>r=.returned (.bool (cA p c.dest))∧Below w.heap.size w w':=by
 unfold aq
 have hs:=Bp.1 hi
 obtain ⟨hlt,hst⟩:=hs
 obtain ⟨wa,hwa,hsa,wb,hwb,hsb,hw,hqz,hcb⟩:=ic w (aq p A1 A2 A3 A4 A5 A6 A7 c1 c2 c3 c4 c5 c6 c7) 30 #[.int .u8 7,.int .i64 (i:Int),.int .i64 (j:Int),s0,s1,s2,s3,s4,s5,s6,s7,s8,s9,s10,s11,s12,s13] 49
 obtain ⟨z0,z1,z2,z3,z4,z5,z6⟩:=aF (w:=wb) (a:=w.heap.size) fun i=>hqz i
 have y0:wb.cell? ⟨w.heap.size+1,0,none⟩=some (.int .u8 7):=hcb 0
 have y1:wb.cell? ⟨w.heap.size+1,1,none⟩=some (.int .i64 (i:Int)):=hcb 1
 have y2:wb.cell? ⟨w.heap.size+1,2,none⟩=some (.int .i64 (j:Int)):=hcb 2
 have hl1:w.heap.size<wb.heap.size:=by omega
 have hl2:w.heap.size+1<wb.heap.size:=by omega
 have hz2:w.heap.size+2=wb.heap.size:=by omega
 have hBb:B≤wb.heap.size:=by omega
 have hP2:=hP.below (hw.mono hB)
 have lst:=hP2.states.len
 obtain ⟨b,o,ecs,hA3,hb,hel,hcell,B1,d1,B2,d2,B3,d3,rfl,hn,hd,hT,hK,hC⟩:=hP2.states.2 i s hi
 subst hA3
 have m1:=hT.len
 have m2:=hK.len
 have m3:=hC.len
 obtain ⟨x0,x1,x2,x3,x4⟩:=cN hcell
 obtain ⟨wc,hwc,hsc,hbc,hcc,-⟩:=al wb #[.string s.name,.slice B1 s.takes.length d1,.string s.dest,.slice B2 s.keys.length d2,.slice B3 s.cases_.length d3] 61
 have hwC:=hw.trans (hbc.mono (by omega))
 have r1:∀ i,wc.cell? ⟨w.heap.size,i,none⟩=wb.cell? ⟨w.heap.size,i,none⟩:=fun i=>hbc.cell (p:=⟨w.heap.size,i,none⟩) (by show w.heap.size<_;omega)
 have r2:∀ i,wc.cell? ⟨w.heap.size+1,i,none⟩=wb.cell? ⟨w.heap.size+1,i,none⟩:=fun i=>hbc.cell (p:=⟨w.heap.size+1,i,none⟩) (by show w.heap.size+1<_;omega)
 have hcz:∀ i,wc.cell? ⟨w.heap.size,i,none⟩=(#[.slice A1 p.headers.length c1,.slice A2 p.metas.length c2,.slice (some ⟨b,o,none⟩) p.states.length c3,.slice A4 p.actions.length c4,.slice A5 p.tables.length c5,.slice A6 p.control.length c6,.slice A7 p.emit.length c7]:Array Value)[i]? :=fun i=>(r1 i).trans (hqz i)
 obtain ⟨f0,f1,f2,f3,f4,f5,f6⟩:=aF (w:=wc) (a:=w.heap.size) fun i=>hcz i
 have g0:wc.cell? ⟨w.heap.size+1,0,none⟩=some (.int .u8 7):=(r2 0).trans y0
 have g1:wc.cell? ⟨w.heap.size+1,1,none⟩=some (.int .i64 (i:Int)):=(r2 1).trans y1
 have g2:wc.cell? ⟨w.heap.size+1,2,none⟩=some (.int .i64 (j:Int)):=(r2 2).trans y2
 simp only [hsb,hsa] at hcc
 obtain ⟨v0,v1,v2,v3,v4⟩:=fR hcc
 have hk1:w.heap.size<wc.heap.size:=by omega
 have hk2:w.heap.size+1<wc.heap.size:=by omega
 have hk3:w.heap.size+1+1<wc.heap.size:=by omega
 have hBc:B≤wc.heap.size:=by omega
 have hbw:b<wc.heap.size:=by omega
 have hiz:(i:Int)<(p.states.length:Int):=by omega
 have hwC':=aa hwC
 have hP3:=aa (hP2.below (hbc.mono hBb))
 have hT3:=aa (hT.below aW (hbc.mono hBb))
 have hK3:=aa (hK.below ai (hbc.mono hBb))
 have hC3:=aa (hC.below eD (hbc.mono hBb))
 have hcz':=aa hcz
 clear hcell hT hK hC hP2 hP hw hqz r1 r2 hbc hcb hcc hcz hwC hst
 replace hz2:=aa hz2
 replace hsc:=aa hsc
 have hjl:=(Bp.1 hj).1
 have hjz:(j:Int)<(s.cases_.length:Int):=by omega
 obtain ⟨b',o',ecs',hA',hb',hel',hcell',B4,d4,rfl,hz,hS4⟩:=hC3.out.2 j c hj
 subst hA'
 have hbw':b'<wc.heap.size:=by omega
 obtain ⟨n0,n1,n2⟩:=dl hcell'
 have hb0:Below wc.heap.size wc wc:=Bi _ _
 have hg:=ax hb0 (Bm _)
 have hX:∀ d os,Hid (Calls prog 174 #[.agg (aq p A1 A2 (some ⟨b,o,none⟩) A4 A5 A6 A7 c1 c2 c3 c4 c5 c6 c7),.string c.dest] (Bl (redrawn wc d) os) _):=fun d os=>aa (gW _ A1 A2 (some ⟨b,o,none⟩) A4 A5 A6 A7 p c1 c2 c3 c4 c5 c6 c7 c.dest (hP3.out.grown hBc d os).1 (hP3.out.grown hBc d os).2)
 generalize co p c.dest=zi at hX
 generalize cA p c.dest=zz at hX ⊢
 clear hi hcell' hS4 hb0
 go_enter func106,ntmps106
 go_wp2_with fail
 refine cD ?_
 repeat (any_goals (first|go_big_quiet_step (first|(go_at_call 174;with_reducible exact Bh (hX _ _).out))|quiet_step (first|(go_at_call 174;with_reducible exact Bh (hX _ _).out))))
 refine wpQuiet_nil ?_
 intro w1 hw1
 replace hw1:=ac hw1
 go_wp2
 go_ret
 exact ⟨rfl,hwC'.out.trans (hw1.mono (by omega))⟩
theorem nO (A1 A2 A3 A4 A5 A6 A7:Option Addr) (p:Pg) (c1 c2 c3 c4 c5 c6 c7:Nat) (B i:Nat) (s:Sa) (j:Int) (s0 s1 s2 s3 s4 s5 s6 s7 s8 s9 s10 s11 s12 s13:Value) (w:World) (hB:B≤w.heap.size) (hP:bu w B A1 A2 A3 A4 A5 A6 A7 p) (hi:p.states[i]? =some s):
  Calls prog 106 #[.agg (aq p A1 A2 A3 A4 A5 A6 A7 c1 c2 c3 c4 c5 c6 c7),.agg #[.int .u8 6,.int .i64 (i:Int),.int .i64 j,s0,s1,s2,s3,s4,s5,s6,s7,s8,s9,s10,s11,s12,s13]] w fun r w'=>r=.returned (.bool (ni p s))∧Below w.heap.size w w':=by
 unfold aq
 have hs:=Bp.1 hi
 obtain ⟨hlt,hst⟩:=hs
 obtain ⟨wa,hwa,hsa,hba,hca,-⟩:=al w (aq p A1 A2 A3 A4 A5 A6 A7 c1 c2 c3 c4 c5 c6 c7) 30
 obtain ⟨wb,hwb,hsb,hbb,hcb,-⟩:=al wa #[.int .u8 6,.int .i64 (i:Int),.int .i64 j,s0,s1,s2,s3,s4,s5,s6,s7,s8,s9,s10,s11,s12,s13] 49
 have hw:=hba.trans (hbb.mono (by omega))
 have q:∀ i,wb.cell? ⟨w.heap.size,i,none⟩=wa.cell? ⟨w.heap.size,i,none⟩:=fun i=>hbb.cell (p:=⟨w.heap.size,i,none⟩) (by show w.heap.size<_;omega)
 have hqz:=fun i=>(q i).trans (hca i)
 obtain ⟨z0,z1,z2,z3,z4,z5,z6⟩:=aF (w:=wb) (a:=w.heap.size) fun i=>hqz i
 simp only [hsa] at hcb
 have y0:wb.cell? ⟨w.heap.size+1,0,none⟩=some (.int .u8 6):=hcb 0
 have y1:wb.cell? ⟨w.heap.size+1,1,none⟩=some (.int .i64 (i:Int)):=hcb 1
 have y2:wb.cell? ⟨w.heap.size+1,2,none⟩=some (.int .i64 j):=hcb 2
 have hl1:w.heap.size<wb.heap.size:=by omega
 have hl2:w.heap.size+1<wb.heap.size:=by omega
 have hz2:w.heap.size+2=wb.heap.size:=by omega
 have hBb:B≤wb.heap.size:=by omega
 have hP2:=hP.below (hw.mono hB)
 have lst:=hP2.states.len
 obtain ⟨b,o,ecs,hA3,hb,hel,hcell,B1,d1,B2,d2,B3,d3,rfl,hn,hd,hT,hK,hC⟩:=hP2.states.2 i s hi
 subst hA3
 have m1:=hT.len
 have m2:=hK.len
 have m3:=hC.len
 obtain ⟨x0,x1,x2,x3,x4⟩:=cN hcell
 obtain ⟨wc,hwc,hsc,hbc,hcc,-⟩:=al wb #[.string s.name,.slice B1 s.takes.length d1,.string s.dest,.slice B2 s.keys.length d2,.slice B3 s.cases_.length d3] 61
 have hwC:=hw.trans (hbc.mono (by omega))
 have r1:∀ i,wc.cell? ⟨w.heap.size,i,none⟩=wb.cell? ⟨w.heap.size,i,none⟩:=fun i=>hbc.cell (p:=⟨w.heap.size,i,none⟩) (by show w.heap.size<_;omega)
 have r2:∀ i,wc.cell? ⟨w.heap.size+1,i,none⟩=wb.cell? ⟨w.heap.size+1,i,none⟩:=fun i=>hbc.cell (p:=⟨w.heap.size+1,i,none⟩) (by show w.heap.size+1<_;omega)
 have hcz:∀ i,wc.cell? ⟨w.heap.size,i,none⟩=(#[.slice A1 p.headers.length c1,.slice A2 p.metas.length c2,.slice (some ⟨b,o,none⟩) p.states.length c3,.slice A4 p.actions.length c4,.slice A5 p.tables.length c5,.slice A6 p.control.length c6,.slice A7 p.emit.length c7]:Array Value)[i]? :=fun i=>(r1 i).trans (hqz i)
 obtain ⟨f0,f1,f2,f3,f4,f5,f6⟩:=aF (w:=wc) (a:=w.heap.size) fun i=>hcz i
 have g0:wc.cell? ⟨w.heap.size+1,0,none⟩=some (.int .u8 6):=(r2 0).trans y0
 have g1:wc.cell? ⟨w.heap.size+1,1,none⟩=some (.int .i64 (i:Int)):=(r2 1).trans y1
 have g2:wc.cell? ⟨w.heap.size+1,2,none⟩=some (.int .i64 j):=(r2 2).trans y2
 simp only [hsb,hsa] at hcc
 obtain ⟨v0,v1,v2,v3,v4⟩:=fR hcc
 have hk1:w.heap.size<wc.heap.size:=by omega
 have hk2:w.heap.size+1<wc.heap.size:=by omega
 have hk3:w.heap.size+1+1<wc.heap.size:=by omega
 have hBc:B≤wc.heap.size:=by omega
 have hbw:b<wc.heap.size:=by omega
 have hiz:(i:Int)<(p.states.length:Int):=by omega
 have hwC':=aa hwC
 have hP3:=aa (hP2.below (hbc.mono hBb))
 have hT3:=aa (hT.below aW (hbc.mono hBb))
 have hK3:=aa (hK.below ai (hbc.mono hBb))
 have hC3:=aa (hC.below eD (hbc.mono hBb))
 have hcz':=aa hcz
 clear hcell hT hK hC hP2 hP hw hqz q r1 r2 hbc hbb hba hca hcb hcc hcz hwC hst
 replace hz2:=aa hz2
 replace hsc:=aa hsc
 clear hi
 by_cases hdd:s.dest=aB
 ·have q1:(s.dest.toList== [])=true:=by rw [ak.1 hdd];rfl
  have q2:s.dest.toList.isEmpty=true:=by rw [ak.1 hdd];rfl
  have hv:=aa (show ni p s=s.keys.all (aU p (-1)) from by unfold ni;rw [if_pos hdd])
  clear hdd
  go_enter func106,ntmps106
  go_wp2
  go_loopw [10] (fun n wr=>∃ k:Nat,k≤s.keys.length∧n=.int .i64 k∧Hid ((s.keys.take k).all (aU p (-1))=true)∧Hid (Below wc.heap.size wc wr)∧wc.heap.size≤wr.heap.size) (fun n _=>s.keys.length-(intOf n).toNat)
  case atStart=>exact ⟨0,Bo _,rfl,aa (by simp),aa (Bi _ _),Bm _⟩
  case round=>
   obtain ⟨k,hk,rfl,hall,hbr,hzr⟩:=hrel
   have hc:=ab hbr.out
   by_cases hltk:k<s.keys.length
   ·obtain ⟨b',o',ecs,hA',hb',hel',hcell',hr⟩:=hK3.out.2 k _ (Bk hltk)
    subst hA'
    have hltz:(k:Int)<(s.keys.length:Int):=by omega
    have hX0:=fun d os=>gY A1 A2 (some ⟨b,o,none⟩) A4 A5 A6 A7 p c1 c2 c3 c4 c5 c6 c7 (-1) B s.keys[k] ecs (Bl (redrawn wr d) os) (by have:=cH wr d os;omega) (hP3.out.below ((aA hbr.out hzr d os).mono (by omega))) (ai.keep hr fun q hq=>((aA hbr.out hzr d os).mono (show B≤_ by omega)).cell hq)
    have ht:=aa (fun h=>ci (p:=aU p (-1)) hltk hall.out h)
    have hfa:=aa (fun h=>bT (p:=aU p (-1)) hltk h)
    generalize aU p (-1) s.keys[k]=tx at ht hfa hX0
    generalize s.keys[k]=x at hr
    obtain ⟨op',lit',head',name',hi',lo',args'⟩:=x
    obtain ⟨A',cap',rfl,-,-,-,-,-,-,hs'⟩:=RE.inv hr
    have hl':=hs'.len
    obtain ⟨n0,n1,n2,n3,n4,n5,n6,n7,n8⟩:=cl hcell'
    have hX:∀ d os,Hid (Calls prog 107 #[.agg (aq p A1 A2 (some ⟨b,o,none⟩) A4 A5 A6 A7 c1 c2 c3 c4 c5 c6 c7),.int .i64 (-1),.agg (aO op' lit' head' name' hi' lo' A' args'.length cap')] (Bl (redrawn wr d) os) _):=fun d os=>aa (hX0 d os)
    have hg:=ax hbr.out hzr
    have hb'':b'<wc.heap.size:=by omega
    clear hcell' hr hX0 hs' hel'
    cases tx with
    |true=>
     have hres:=aa (ht.out rfl)
     clear ht hfa
     go_wp2_with fail
     refine cD ?_
     repeat (any_goals (first|go_big_quiet_step (first|(go_at_call 107;with_reducible exact Bh (hX _ _).out))|quiet_step (first|(go_at_call 107;with_reducible exact Bh (hX _ _).out))))
     refine wpQuiet_nil ?_
     intro w1 hw1
     replace hw1:=ac hw1
     go_wp2
     go_roundw
     case rel=>exact ⟨k+1,by omega,by go_num,hres,aa (hbr.out.trans (hw1.mono (by omega))),by have:=hw1.size;omega⟩
     case measure=>simp [intOf];omega
    |false=>
     have hfa':=aa (hfa.out rfl)
     clear ht hfa
     go_wp2_with fail
     refine cD ?_
     repeat (any_goals (first|go_big_quiet_step (first|(go_at_call 107;with_reducible exact Bh (hX _ _).out))|quiet_step (first|(go_at_call 107;with_reducible exact Bh (hX _ _).out))))
     refine wpQuiet_nil ?_
     intro w1 hw1
     replace hw1:=ac hw1
     go_wp2
     go_ret
     exact ⟨ah (by rw [hv.out,hfa'.out]),hwC'.out.trans ((hbr.out.trans (hw1.mono (by omega))).mono (by omega))⟩
   ·have hfull:=aa (show s.keys.all (aU p (-1))=true from by rw [←hall.out,BB (by omega)])
    go_wp2
    go_ret
    exact ⟨ah (by rw [hv.out,hfull.out]),hwC'.out.trans (hbr.out.mono (by omega))⟩
 ·have q1:(s.dest.toList== [])=false:=by rw [beq_eq_false_iff_ne];exact fun h=>hdd (ak.2 h)
  have q2:s.dest.toList.isEmpty=false:=by rw [B9];exact fun h=>hdd (ak.2 h)
  have hv:=aa (show ni p s=cA p s.dest from by unfold ni;rw [if_neg hdd])
  have hX:=aa (gW wc A1 A2 (some ⟨b,o,none⟩) A4 A5 A6 A7 p c1 c2 c3 c4 c5 c6 c7 s.dest hBc hP3.out)
  generalize co p s.dest=zi at hX
  generalize cA p s.dest=zz at hX hv
  clear hdd
  go_enter func106,ntmps106
  go_wp2_with (go_at_call 174;refine hX.out.mono ?_;rintro e w1 ⟨rfl,hw1⟩)
  go_ret
  exact ⟨ah hv.out.symm,hwC'.out.trans (hw1.mono (by omega))⟩
theorem nP (A1 A2 A3 A4 A5 A6 A7:Option Addr) (p:Pg) (c1 c2 c3 c4 c5 c6 c7:Nat) (B:Nat) (k:Int) (hk:k=5) (a b:Int) (z:Bool) (s0 s1 s2 s3 s4 s5 s6 s7 s8 s9 s10 s11 s12 s13:Value) (w:World) (hB:B≤w.heap.size)
  (hX0:∀ W,B≤W.heap.size→Below w.heap.size w W→Calls prog 106 #[.agg (aq p A1 A2 A3 A4 A5 A6 A7 c1 c2 c3 c4 c5 c6 c7),.agg #[.int .u8 k,.int .i64 a,.int .i64 b,s0,s1,s2,s3,s4,s5,s6,s7,s8,s9,s10,s11,s12,s13]] W fun r W'=>r=.returned (.bool z)∧Below W.heap.size W W'):
  Calls prog 40 #[.agg (aq p A1 A2 A3 A4 A5 A6 A7 c1 c2 c3 c4 c5 c6 c7),.agg #[.int .u8 k,.int .i64 a,.int .i64 b,s0,s1,s2,s3,s4,s5,s6,s7,s8,s9,s10,s11,s12,s13]] w fun r w'=>r=.returned (.int .i64 (cF (!z) 7))∧Below w.heap.size w w':=by
 unfold aq
 obtain ⟨wa,hwa,hsa,wb,hwb,hsb,hw,hqz,hcb⟩:=ic w (aq p A1 A2 A3 A4 A5 A6 A7 c1 c2 c3 c4 c5 c6 c7) 30 #[.int .u8 k,.int .i64 a,.int .i64 b,s0,s1,s2,s3,s4,s5,s6,s7,s8,s9,s10,s11,s12,s13] 49
 obtain ⟨z0,z1,z2,z3,z4,z5,z6⟩:=aF (w:=wb) (a:=w.heap.size) fun i=>hqz i
 obtain ⟨y0,y1,y2,y3,y4,y5,y6,y7,y8,y9,y10,y11,y12,y13,y14,y15,y16⟩:=bv hcb
 have hl1:w.heap.size<wb.heap.size:=by omega
 have hl2:w.heap.size+1<wb.heap.size:=by omega
 have hz2:w.heap.size+2≤wb.heap.size:=by omega
 have hBb:B≤wb.heap.size:=by omega
 have hb0:Below wb.heap.size wb wb:=Bi _ _
 have hwC:=aa hw
 replace hsb:=aa hsb
 clear hqz hcb
 have hX:=aa (hX0 wb hBb (hwC.out))
 clear hX0 hb0
 rcases hk with rfl<;>cases z<;>(
  go_enter func40,ntmps40
  go_wp2_with (go_at_call 106;refine hX.out.mono ?_;rintro e w1 ⟨rfl,hw1⟩)
  go_ret
  exact ⟨rfl,hwC.out.trans (hw1.mono (by omega))⟩)
theorem nQ (A1 A2 A3 A4 A5 A6 A7:Option Addr) (p:Pg) (c1 c2 c3 c4 c5 c6 c7:Nat) (B:Nat) (k:Int) (hk:k=6) (a b:Int) (z:Bool) (s0 s1 s2 s3 s4 s5 s6 s7 s8 s9 s10 s11 s12 s13:Value) (w:World) (hB:B≤w.heap.size)
  (hX0:∀ W,B≤W.heap.size→Below w.heap.size w W→Calls prog 106 #[.agg (aq p A1 A2 A3 A4 A5 A6 A7 c1 c2 c3 c4 c5 c6 c7),.agg #[.int .u8 k,.int .i64 a,.int .i64 b,s0,s1,s2,s3,s4,s5,s6,s7,s8,s9,s10,s11,s12,s13]] W fun r W'=>r=.returned (.bool z)∧Below W.heap.size W W'):
  Calls prog 40 #[.agg (aq p A1 A2 A3 A4 A5 A6 A7 c1 c2 c3 c4 c5 c6 c7),.agg #[.int .u8 k,.int .i64 a,.int .i64 b,s0,s1,s2,s3,s4,s5,s6,s7,s8,s9,s10,s11,s12,s13]] w fun r w'=>r=.returned (.int .i64 (cF (!z) 7))∧Below w.heap.size w w':=by
 unfold aq
 obtain ⟨wa,hwa,hsa,wb,hwb,hsb,hw,hqz,hcb⟩:=ic w (aq p A1 A2 A3 A4 A5 A6 A7 c1 c2 c3 c4 c5 c6 c7) 30 #[.int .u8 k,.int .i64 a,.int .i64 b,s0,s1,s2,s3,s4,s5,s6,s7,s8,s9,s10,s11,s12,s13] 49
 obtain ⟨z0,z1,z2,z3,z4,z5,z6⟩:=aF (w:=wb) (a:=w.heap.size) fun i=>hqz i
 obtain ⟨y0,y1,y2,y3,y4,y5,y6,y7,y8,y9,y10,y11,y12,y13,y14,y15,y16⟩:=bv hcb
 have hl1:w.heap.size<wb.heap.size:=by omega
 have hl2:w.heap.size+1<wb.heap.size:=by omega
 have hz2:w.heap.size+2≤wb.heap.size:=by omega
 have hBb:B≤wb.heap.size:=by omega
 have hb0:Below wb.heap.size wb wb:=Bi _ _
 have hwC:=aa hw
 replace hsb:=aa hsb
 clear hqz hcb
 have hX:=aa (hX0 wb hBb (hwC.out))
 clear hX0 hb0
 rcases hk with rfl<;>cases z<;>(
  go_enter func40,ntmps40
  go_wp2_with (go_at_call 106;refine hX.out.mono ?_;rintro e w1 ⟨rfl,hw1⟩)
  go_ret
  exact ⟨rfl,hwC.out.trans (hw1.mono (by omega))⟩)
theorem nR (A1 A2 A3 A4 A5 A6 A7:Option Addr) (p:Pg) (c1 c2 c3 c4 c5 c6 c7:Nat) (B:Nat) (k:Int) (hk:k=7) (a b:Int) (z:Bool) (s0 s1 s2 s3 s4 s5 s6 s7 s8 s9 s10 s11 s12 s13:Value) (w:World) (hB:B≤w.heap.size)
  (hX0:∀ W,B≤W.heap.size→Below w.heap.size w W→Calls prog 106 #[.agg (aq p A1 A2 A3 A4 A5 A6 A7 c1 c2 c3 c4 c5 c6 c7),.agg #[.int .u8 k,.int .i64 a,.int .i64 b,s0,s1,s2,s3,s4,s5,s6,s7,s8,s9,s10,s11,s12,s13]] W fun r W'=>r=.returned (.bool z)∧Below W.heap.size W W'):
  Calls prog 40 #[.agg (aq p A1 A2 A3 A4 A5 A6 A7 c1 c2 c3 c4 c5 c6 c7),.agg #[.int .u8 k,.int .i64 a,.int .i64 b,s0,s1,s2,s3,s4,s5,s6,s7,s8,s9,s10,s11,s12,s13]] w fun r w'=>r=.returned (.int .i64 (cF (!z) 7))∧Below w.heap.size w w':=by
 unfold aq
 obtain ⟨wa,hwa,hsa,wb,hwb,hsb,hw,hqz,hcb⟩:=ic w (aq p A1 A2 A3 A4 A5 A6 A7 c1 c2 c3 c4 c5 c6 c7) 30 #[.int .u8 k,.int .i64 a,.int .i64 b,s0,s1,s2,s3,s4,s5,s6,s7,s8,s9,s10,s11,s12,s13] 49
 obtain ⟨z0,z1,z2,z3,z4,z5,z6⟩:=aF (w:=wb) (a:=w.heap.size) fun i=>hqz i
 obtain ⟨y0,y1,y2,y3,y4,y5,y6,y7,y8,y9,y10,y11,y12,y13,y14,y15,y16⟩:=bv hcb
 have hl1:w.heap.size<wb.heap.size:=by omega
 have hl2:w.heap.size+1<wb.heap.size:=by omega
 have hz2:w.heap.size+2≤wb.heap.size:=by omega
 have hBb:B≤wb.heap.size:=by omega
 have hb0:Below wb.heap.size wb wb:=Bi _ _
 have hwC:=aa hw
 replace hsb:=aa hsb
 clear hqz hcb
 have hX:=aa (hX0 wb hBb (hwC.out))
 clear hX0 hb0
 rcases hk with rfl<;>cases z<;>(
  go_enter func40,ntmps40
  go_wp2_with (go_at_call 106;refine hX.out.mono ?_;rintro e w1 ⟨rfl,hw1⟩)
  go_ret
  exact ⟨rfl,hwC.out.trans (hw1.mono (by omega))⟩)
end Go.Proofs.YtbbdhknagofghaaGreat

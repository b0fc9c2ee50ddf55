import Derived.Test.YtiebolhmdhdagaaGreatDoorEwp31
import Derived.RegionDies
set_option linter.all false
set_option maxHeartbeats 8000000
set_option maxRecDepth 100000
open Go.Proofs.Tryz
namespace Go.Proofs.YtiebolhmdhdagaaGreatDoor
open _root_.Go.RowKit.Below renaming refl→Hf
open _root_.Nat renaming le_refl→Hh, le_trans→Hj, le_of_lt→Hs, lt_trans→HB
open Go.RowKit
section
attribute [local go_sem] run_panic_iface
theorem tE {w W:World} {b:Nat} (h:Below b w W) (a c d e:Value):Below b w ((((W.setCell ⟨b+2,0,none⟩ a).setCell ⟨b+3,0,none⟩ c).setCell ⟨b+3,1,none⟩ d).setCell ⟨b+3,2,none⟩ e):=
 (((h.setCell (p:=⟨b+2,0,none⟩) (Nat.le_add_right _ _) a).setCell (p:=⟨b+3,0,none⟩) (Nat.le_add_right _ _) c).setCell (p:=⟨b+3,1,none⟩) (Nat.le_add_right _ _) d).setCell (p:=⟨b+3,2,none⟩) (Nat.le_add_right _ _) e
theorem yV (A1 A2 A3 A4 A5 A6 A7 A8 A9 A10 A11 A12:Option Addr) (p:Lp) (c1 c2 c3 c4 c5 c6 c7 c8 c9 c10 c11 c12:Nat) (ASW:Option Addr) (cSW:Nat) (sw:List ByteArray) (s:ByteArray) (n:Int) (k:Nat) (w:World) (hP:cJ w w.heap.size A1 A2 A3 A4 A5 A6 A7 A8 A9 A10 A11 A12 p) (hmay:bW p=true) (hsw:sw.length≤8) (hs:s.size<4611686018427387904) (hV:iA w) (hR:eU s.data.toList=.error (n,k)) (hn0:n≠0):
  Calls prog 14 #[.agg #[.slice A1 p.heads.length c1,.slice A2 p.metas.length c2,.slice A3 p.steps.length c3,.slice A4 p.acts.length c4,.slice A5 p.tabs.length c5,.slice A6 p.control.length c6,.slice A7 p.emit.length c7,.slice A8 p.nh.length c8,.slice A9 p.nf.length c9,.slice A10 p.nm.length c10,.slice A11 p.na.length c11,.slice A12 p.nt.length c12],.slice ASW sw.length cSW,.string s] w fun e w'=>e=.returned (.tuple #[.slice none 0 0,dg n (s.data.toList.take k)])∧Below w.heap.size w w':=by
 have hmf:∀ (fn:Fn) (first cap:Array Value) (w:World),(Instr.makeFunc fn first cap).run prog w=.ok (.func fn first cap) w:=fun _ _ _ _=>rfl
 obtain ⟨wa,wb,wd,hwa,hwb,hwd,hsa,hsb,hsd,wc,hwc,hL,hB,hY,hsc⟩:=ES w #[.slice A1 p.heads.length c1,.slice A2 p.metas.length c2,.slice A3 p.steps.length c3,.slice A4 p.acts.length c4,.slice A5 p.tabs.length c5,.slice A6 p.control.length c6,.slice A7 p.emit.length c7,.slice A8 p.nh.length c8,.slice A9 p.nf.length c9,.slice A10 p.nm.length c10,.slice A11 p.na.length c11,.slice A12 p.nt.length c12] s
 obtain ⟨y0,y1,y2,y3,y4,y5,y6,y7,y8,y9,y10,y11⟩:=aC hY
 have hPc:=(hP.below hB).more (B':=wc.heap.size) hB.size
 have hM:=jN A1 A2 A3 A4 A5 A6 A7 A8 A9 A10 A11 A12 p c1 c2 c3 c4 c5 c6 c7 c8 c9 c10 c11 c12 wc hPc
 rw [hmay] at hM
 replace hM:=aa hM
 have d8:decide ((8:Int)<(sw.length:Int))=false:=decide_eq_false (by omega)
 have d8':decide (8<sw.length)=false:=decide_eq_false (by omega)
 have lp0:w.heap.size<wc.heap.size:=by omega
 have lt:=hL.lt
 have hLx:=aa (fun (W:World) (hW:Below wc.heap.size wc W)=>show Calls prog 38 #[.string s] W fun e w'=>e=.returned (.tuple #[.slice none 0 0,dg n (s.data.toList.take k)])∧Below W.heap.size W w' from by
  have h:=n9 s W hs ((hV.below hB (Hh _)).below hW (by omega))
  unfold oQ at h
  rw [hR] at h
  exact h)
 unfold dg at hLx ⊢
 generalize (((be (s.data.toList.take k)).1:Nat):Int)=pl at hLx ⊢
 generalize (((be (s.data.toList.take k)).2:Nat):Int)=pc at hLx ⊢
 have hnb:(n !=0)=true:=by simp [hn0]
 replace hn0:=aa hn0
 replace hB:=aa hB
 replace hsc:=aa hsc
 replace hL:=aa hL
 clear hR hV hP hPc hmay hY
 obtain ⟨-,c0,z0,e0,e1,e2,f0,g0,g1,g2⟩:=hL.out
 go_enter_defers func14,ntmps14
 go_upto_region 3 with (go_at_call 18;refine hM.out.mono ?_;rintro e w2 ⟨rfl,hb2⟩;have kb:=hL.out.below hb2 lt;obtain ⟨lt2,yc0,yz0,ye0,ye1,ye2,yf0,yg0,yg1,yg2⟩:=kb)
 clear y0 y1 y2 y3 y4 y5 y6 y7 y8 y9 y10 y11
 go_upto_region 4 with (go_at_call 38;refine (hLx.out _ hb2).mono ?_;rintro e w3 ⟨rfl,hb3⟩;have kb:=(hL.out.below hb2 lt).below hb3 lt2;obtain ⟨lt3,xc0,xz0,xe0,xe1,xe2,xf0,xg0,xg1,xg2⟩:=kb)
 have hBf:=aa (hB.out.trans ((hb2.trans (hb3.mono hb2.size)).mono hB.out.size))
 obtain ⟨w4,hw4⟩:∃ w4,((w3.setCell ⟨w.heap.size+3,0,none⟩ (.int .i64 n)).setCell ⟨w.heap.size+3,1,none⟩ (.int .i64 pl)).setCell ⟨w.heap.size+3,2,none⟩ (.int .i64 pc)=w4:=⟨_,rfl⟩
 have hB4:=aa (show Below w.heap.size w w4 from hw4 ▸ dW hBf.out (by omega) _ _ _)
 have a0:w4.cell? ⟨w.heap.size+2,0,none⟩=some (.slice none 0 0):=by rw [←hw4];simp [go_sem,xz0]
 have b0:w4.cell? ⟨w.heap.size+3,0,none⟩=some (.int .i64 n):=by rw [←hw4];simp [go_sem,xe0,xe1,xe2]
 have b1:w4.cell? ⟨w.heap.size+3,1,none⟩=some (.int .i64 pl):=by rw [←hw4];simp [go_sem,xe0,xe1,xe2]
 have b2:w4.cell? ⟨w.heap.size+3,2,none⟩=some (.int .i64 pc):=by rw [←hw4];simp [go_sem,xe0,xe1,xe2]
 have r0:w4.frozen? ⟨w.heap.size+2,0,none⟩=false:=by rw [←hw4];simp [go_sem,xf0]
 have s0:w4.frozen? ⟨w.heap.size+3,0,none⟩=false:=by rw [←hw4];simp [go_sem,xg0]
 have s1:w4.frozen? ⟨w.heap.size+3,1,none⟩=false:=by rw [←hw4];simp [go_sem,xg1]
 have s2:w4.frozen? ⟨w.heap.size+3,2,none⟩=false:=by rw [←hw4];simp [go_sem,xg2]
 have l1:w.heap.size+2<w4.heap.size:=by rw [←hw4,an,an,an];omega
 have l2:w.heap.size+3<w4.heap.size:=by rw [←hw4,an,an,an];omega
 rw [hw4]
 clear hw4 yc0 yz0 ye0 ye1 ye2 yf0 yg0 yg1 yg2 xc0 xz0 xe0 xe1 xe2 xf0 xg0 xg1 xg2 hLx hL hBf hb2 hb3 hM c0 z0 e0 e1 e2 f0 g0 g1 g2
 go_wp2
 go_region
 go_wp2
 have hq:=aa ((tE hB4.out (.slice none 0 0) (.int .i64 n) (.int .i64 pl) (.int .i64 pc)).drew)
 simp [bodyPostD,Leaves,settle,results,results14,go_sem,a0,b0,b1,b2]
 exact hq.out
theorem eH.setg {w:World} {B og k i:Nat} {v:Value} {vs:List Value} {out:List (List aR)} (h:eH w B og vs out) (hk:k<B):eH (w.setCell ⟨k,i,none⟩ v) B og vs out:=h.grg (ay.set k w i v) hk
theorem jR:∀ args w,(callFunc 40 args).run prog w=.ok (.enter 40 args) w:=enters_of func40 (by kernel_rfl) rfl
theorem tF (A1 A2 A3 A4 A5 A6 A7 A8 A9 A10 A11 A12:Option Addr) (p:Lp) (c1 c2 c3 c4 c5 c6 c7 c8 c9 c10 c11 c12:Nat) (ASW:Option Addr) (cSW:Nat) (sw:List ByteArray) (s:ByteArray) (r:List Tk) (out:List (List aR)) (fz:Nat) (mm:Int) (w:World) (hP:cJ w w.heap.size A1 A2 A3 A4 A5 A6 A7 A8 A9 A10 A11 A12 p) (hmay:bW p=true) (hsw:sw.length≤8) (hSw:Sl 1 bZ w w.heap.size ASW sw) (hs:s.size<4611686018427387904) (hV:iA w) (hml:2<w.heap.size) (hm:w.cell? ⟨2,0,none⟩=some (.int .i64 mm)) (hR:eU s.data.toList=.ok r) (ho:jx p sw fz (List.replicate sw.length []) r=some out):
  Calls prog 14 #[.agg #[.slice A1 p.heads.length c1,.slice A2 p.metas.length c2,.slice A3 p.steps.length c3,.slice A4 p.acts.length c4,.slice A5 p.tabs.length c5,.slice A6 p.control.length c6,.slice A7 p.emit.length c7,.slice A8 p.nh.length c8,.slice A9 p.nf.length c9,.slice A10 p.nm.length c10,.slice A11 p.na.length c11,.slice A12 p.nt.length c12],.slice ASW sw.length cSW,.string s] w fun e w'=>∃ A,e=.returned (.tuple #[.slice A sw.length sw.length,.agg #[.int .i64 0,.int .i64 0,.int .i64 0]])∧out.length=sw.length∧Sl 1 fh w' w'.heap.size A out∧Below w.heap.size w w':=by
 have hmf:∀ (fn:Fn) (first cap:Array Value) (w:World),(Instr.makeFunc fn first cap).run prog w=.ok (.func fn first cap) w:=fun _ _ _ _=>rfl
 obtain ⟨wa,wb,wd,hwa,hwb,hwd,hsa,hsb,hsd,wc,hwc,hL,hB,hY,hsc⟩:=ES w #[.slice A1 p.heads.length c1,.slice A2 p.metas.length c2,.slice A3 p.steps.length c3,.slice A4 p.acts.length c4,.slice A5 p.tabs.length c5,.slice A6 p.control.length c6,.slice A7 p.emit.length c7,.slice A8 p.nh.length c8,.slice A9 p.nf.length c9,.slice A10 p.nm.length c10,.slice A11 p.na.length c11,.slice A12 p.nt.length c12] s
 obtain ⟨y0,y1,y2,y3,y4,y5,y6,y7,y8,y9,y10,y11⟩:=aC hY
 have hPc:=(hP.below hB).more (B':=wc.heap.size) hB.size
 have hM:=jN A1 A2 A3 A4 A5 A6 A7 A8 A9 A10 A11 A12 p c1 c2 c3 c4 c5 c6 c7 c8 c9 c10 c11 c12 wc hPc
 rw [hmay] at hM
 replace hM:=aa hM
 have d8:decide ((8:Int)<(sw.length:Int))=false:=decide_eq_false (by omega)
 have d8':decide (8<sw.length)=false:=decide_eq_false (by omega)
 have lp0:w.heap.size<wc.heap.size:=by omega
 have lt:=hL.lt
 have hLx:=aa (fun (W:World) (hW:Below wc.heap.size wc W)=>show Calls prog 38 #[.string s] W fun e w'=>(∃ A cap,e=.returned (.tuple #[.slice A r.length cap,.agg #[.int .i64 0,.int .i64 0,.int .i64 0]])∧Sl 6 zr w' w'.heap.size A r∧r.length≤cap∧cap≤maxLen)∧Below W.heap.size W w' from by
  have h:=n9 s W hs ((hV.below hB (Hh _)).below hW (by omega))
  unfold oQ at h
  rw [hR] at h
  exact h)
 have hEn:=aa (lE hR)
 have eg:=jR
 have hm0:=aa ((hB.cell (p:=⟨2,0,none⟩) hml).trans hm)
 have hB':=aa hB
 have hYc:=aa hY
 replace hB:=aa hB
 replace hsc:=aa hsc
 replace hL:=aa hL
 obtain ⟨-,c0,z0,e0,e1,e2,f0,g0,g1,g2⟩:=hL.out
 go_enter_defers func14,ntmps14
 go_upto_region 3 with (go_at_call 18;refine hM.out.mono ?_;rintro e w2 ⟨rfl,hb2⟩;have kb:=hL.out.below hb2 lt;obtain ⟨lt2,yc0,yz0,ye0,ye1,ye2,yf0,yg0,yg1,yg2⟩:=kb)
 clear y0 y1 y2 y3 y4 y5 y6 y7 y8 y9 y10 y11
 go_upto_region 6 with (go_at_call 38;refine (hLx.out _ hb2).mono ?_;rintro e w3 ⟨⟨A,cap,rfl,hSl,hc1,hc2⟩,hb3⟩;have kb:=(hL.out.below hb2 lt).below hb3 lt2;obtain ⟨lt3,xc0,xz0,xe0,xe1,xe2,xf0,xg0,xg1,xg2⟩:=kb)
 have hL3:=aa ((hL.out.below hb2 lt).below hb3 lt2)
 have hb23:=hb2.trans (hb3.mono hb2.size)
 have hB4:=aa (show Below w.heap.size w (((w3.setCell ⟨w.heap.size+3,0,none⟩ (.int .i64 0)).setCell ⟨w.heap.size+3,1,none⟩ (.int .i64 0)).setCell ⟨w.heap.size+3,2,none⟩ (.int .i64 0)) from dW (hB.out.trans (hb23.mono hB.out.size)) (by omega) _ _ _)
 have hL4:=aa hL3.out.setF
 have hS4:=aa (show Sl 6 zr (((w3.setCell ⟨w.heap.size+3,0,none⟩ (.int .i64 0)).setCell ⟨w.heap.size+3,1,none⟩ (.int .i64 0)).setCell ⟨w.heap.size+3,2,none⟩ (.int .i64 0)) w3.heap.size A r from hSl.keep gY fun q _=>hL3.out.same q)
 have hY4:=aa (fun i=>(hL3.out.same ⟨w.heap.size,i,none⟩).trans ((hb23.cell (p:=⟨w.heap.size,i,none⟩) lp0).trans (hYc.out i)))
 have hP4:=aa (show cJ (((w3.setCell ⟨w.heap.size+3,0,none⟩ (.int .i64 0)).setCell ⟨w.heap.size+3,1,none⟩ (.int .i64 0)).setCell ⟨w.heap.size+3,2,none⟩ (.int .i64 0)) w.heap.size A1 A2 A3 A4 A5 A6 A7 A8 A9 A10 A11 A12 p from hP.keep fun a ha=>(hL3.out.same a).trans ((hb23.cell (HB ha lp0)).trans (hB.out.cell ha)))
 have hW4:=aa (show Sl 1 bZ (((w3.setCell ⟨w.heap.size+3,0,none⟩ (.int .i64 0)).setCell ⟨w.heap.size+3,1,none⟩ (.int .i64 0)).setCell ⟨w.heap.size+3,2,none⟩ (.int .i64 0)) w.heap.size ASW sw from hSw.keep av fun a ha=>(hL3.out.same a).trans ((hb23.cell (HB ha lp0)).trans (hB.out.cell ha)))
 have hm4:=aa ((hL3.out.same ⟨2,0,none⟩).trans ((hb23.cell (p:=⟨2,0,none⟩) (by show 2<wc.heap.size;omega)).trans hm0.out))
 have hz4:(((w3.setCell ⟨w.heap.size+3,0,none⟩ (.int .i64 0)).setCell ⟨w.heap.size+3,1,none⟩ (.int .i64 0)).setCell ⟨w.heap.size+3,2,none⟩ (.int .i64 0)).heap.size=w3.heap.size:=by rw [an,an,an]
 generalize (((w3.setCell ⟨w.heap.size+3,0,none⟩ (.int .i64 0)).setCell ⟨w.heap.size+3,1,none⟩ (.int .i64 0)).setCell ⟨w.heap.size+3,2,none⟩ (.int .i64 0))=w4 at hB4 hL4 hS4 hY4 hP4 hW4 hm4 hz4 ⊢
 clear yc0 yz0 ye0 ye1 ye2 yf0 yg0 yg1 yg2 xc0 xz0 xe0 xe1 xe2 xf0 xg0 xg1 xg2 hLx hL hL3 hB hSl hb2 hb3 hb23 hM c0 z0 e0 e1 e2 f0 g0 g1 g2 lt2 lt3 hwa hwb hwd hsa hsb hsd hwc
 obtain ⟨y0,y1,y2,y3,y4,y5,y6,y7,y8,y9,y10,y11⟩:=aC hY4.out
 obtain ⟨lt4,c0,z0,e0,e1,e2,f0,g0,g1,g2⟩:=hL4.out
 obtain ⟨w5,hw5,hs5,hb5,-,-⟩:=ak w4 #[.slice A1 p.heads.length c1,.slice A2 p.metas.length c2,.slice A3 p.steps.length c3,.slice A4 p.acts.length c4,.slice A5 p.tabs.length c5,.slice A6 p.control.length c6,.slice A7 p.emit.length c7,.slice A8 p.nh.length c8,.slice A9 p.nf.length c9,.slice A10 p.nm.length c10,.slice A11 p.na.length c11,.slice A12 p.nt.length c12,.slice ASW sw.length cSW,.slice A r.length cap] 94
 have lw4:w.heap.size<w4.heap.size:=by omega
 have hRd:=aa (show bb w5.drew w4.heap.size r #[.slice A1 p.heads.length c1,.slice A2 p.metas.length c2,.slice A3 p.steps.length c3,.slice A4 p.acts.length c4,.slice A5 p.tabs.length c5,.slice A6 p.control.length c6,.slice A7 p.emit.length c7,.slice A8 p.nh.length c8,.slice A9 p.nf.length c9,.slice A10 p.nm.length c10,.slice A11 p.na.length c11,.slice A12 p.nt.length c12,.slice ASW sw.length cSW] from by
  refine ⟨hEn.out,rfl,A,cap,hc1,hc2,?_,?_⟩
  ·show w5.heap[w4.heap.size]? =_
   rw [←hw5]
   exact heap_alloc_new w4 _
  ·have h:=hS4.out.more (B':=w4.heap.size) gY (by omega)
   exact h.keep gY fun q hq=>hb5.cell hq)
 have hP5:=aa (show cJ w5.drew w4.heap.size A1 A2 A3 A4 A5 A6 A7 A8 A9 A10 A11 A12 p from (hP4.out.keep (w':=w5.drew) fun a ha=>hb5.cell (HB ha lw4)).more (Hs lw4))
 have hW5:=aa (show Sl 1 bZ w5.drew w4.heap.size ASW sw from (hW4.out.keep (w':=w5.drew) av fun a ha=>hb5.cell (HB ha lw4)).more av (Hs lw4))
 have hm5:=aa (show w5.drew.cell? ⟨2,0,none⟩=some (.int .i64 mm) from (hb5.cell (p:=⟨2,0,none⟩) (by show 2<w4.heap.size;omega)).trans hm4.out)
 have hL5:=aa (hL4.out.below hb5 lt4)
 have hB5:=aa (hB4.out.trans (hb5.mono hB4.out.size))
 have hb5':=aa hb5
 have hAll:=aa (Ft A1 A2 A3 A4 A5 A6 A7 A8 A9 A10 A11 A12 p c1 c2 c3 c4 c5 c6 c7 c8 c9 c10 c11 c12 ASW cSW sw fz _ rfl w5.drew hRd.out (by omega) hm5.out hP5.out hmay hW5.out (by omega) ho)
 clear hRd hP5 hW5 hm5 hm4 hP4 hW4 hS4 hY4 hEn hP hPc hSw hV hm hmay hR ho hYc hm0 hY
 replace hz4:=aa hz4
 have hAl2:=aa (show Calls prog 40 #[.pointer (some ⟨w4.heap.size,0,none⟩)] w5.drew fun e w'=>e=.returned (.slice (some ⟨w5.heap.size,0,none⟩) sw.length sw.length)∧Hid (∃ vs,eH w' w5.heap.size w5.heap.size vs out∧out.length=sw.length)∧Hid (Below w4.heap.size w5 w')∧w'.cell? ⟨w.heap.size+2,0,none⟩=some (.slice none 0 0)∧w'.cell? ⟨w.heap.size+3,0,none⟩=some (.int .i64 0)∧w'.cell? ⟨w.heap.size+3,1,none⟩=some (.int .i64 0)∧w'.cell? ⟨w.heap.size+3,2,none⟩=some (.int .i64 0)∧w'.frozen? ⟨w.heap.size+2,0,none⟩=false∧w'.frozen? ⟨w.heap.size+3,0,none⟩=false∧w'.frozen? ⟨w.heap.size+3,1,none⟩=false∧w'.frozen? ⟨w.heap.size+3,2,none⟩=false∧w.heap.size+2<w'.heap.size∧w.heap.size+3<w'.heap.size from hAll.out.mono fun e w' h=>by
  obtain ⟨vs,rfl,hO,hln,hG⟩:=h
  have hb:Below w4.heap.size w5 w':=(Hf _ _).drew.trans (hG.below (Hh _) (by show w4.heap.size≤w5.heap.size;omega))
  have hL6:=hL5.out.below hb (by omega)
  obtain ⟨q0,-,q1,q2,q3,q4,q5,q6,q7,q8⟩:=hL6
  exact ⟨rfl,aa ⟨vs,hO,hln⟩,aa hb,q1,q2,q3,q4,q5,q6,q7,q8,by omega,by omega⟩)
 obtain ⟨lt5,d0,u0,v0,v1,v2,h0,i0,i1,i2⟩:=hL5.out
 replace hs5:=aa hs5
 clear hAll c0 z0 e0 e1 e2 f0 g0 g1 g2 hb5
 go_upto_region 9 with fail
 refine wp_region_noPanic ?_
 go_region_with (go_at_fn 40;refine hAl2.out.mono ?_;rintro e w6 ⟨rfl,hO,hb6,y0,y1,y2,y3,y4,y5,y6,y7,y8,y9⟩)
 all_goals refine NoPanic.normal ?_
 all_goals (
  go_wp2
  have hz6:=hb6.out.size
  have hq4:=hB4.out.size
  have hW6:=aa (hB5.out.trans (hb6.out.mono hq4))
  have hBF:=aa (tE hW6.out (.slice (some ⟨w5.heap.size,0,none⟩) sw.length sw.length) (.int .i64 0) (.int .i64 0) (.int .i64 0))
  obtain ⟨w7,hw7⟩:∃ w7,((((w6.setCell ⟨w.heap.size+2,0,none⟩ (.slice (some ⟨w5.heap.size,0,none⟩) sw.length sw.length)).setCell ⟨w.heap.size+3,0,none⟩ (.int .i64 0)).setCell ⟨w.heap.size+3,1,none⟩ (.int .i64 0)).setCell ⟨w.heap.size+3,2,none⟩ (.int .i64 0))=w7:=⟨_,rfl⟩
  have hq5:w.heap.size+4≤w5.heap.size:=by have:=hs5.out;have:=hz4.out;have:=hq4;omega
  have hNF':=aa (show ∃ vs,eH w7 w5.heap.size w5.heap.size vs out∧out.length=sw.length from by
   obtain ⟨vs,h1,h2⟩:=hO.out
   exact ⟨vs,hw7 ▸ (((h1.setg (k:=w.heap.size+2) (by omega)).setg (k:=w.heap.size+3) (by omega)).setg (k:=w.heap.size+3) (by omega)).setg (k:=w.heap.size+3) (by omega),h2⟩)
  have q0:w7.cell? ⟨w.heap.size+2,0,none⟩=some (.slice (some ⟨w5.heap.size,0,none⟩) sw.length sw.length):=by rw [←hw7];simp [go_sem,y0,y1,y2,y3]
  have q1:w7.cell? ⟨w.heap.size+3,0,none⟩=some (.int .i64 0):=by rw [←hw7];simp [go_sem,y0,y1,y2,y3]
  have q2:w7.cell? ⟨w.heap.size+3,1,none⟩=some (.int .i64 0):=by rw [←hw7];simp [go_sem,y0,y1,y2,y3]
  have q3:w7.cell? ⟨w.heap.size+3,2,none⟩=some (.int .i64 0):=by rw [←hw7];simp [go_sem,y0,y1,y2,y3]
  have l1':w.heap.size+2<w7.heap.size:=by rw [←hw7];simp only [an];exact y8
  have l2':w.heap.size+3<w7.heap.size:=by rw [←hw7];simp only [an];exact y9
  have hBF':=aa (show Below w.heap.size w w7 from hw7 ▸ hBF.out)
  have l5':w5.heap.size≤w7.heap.size:=by rw [←hw7];simp only [an];exact hz6
  rw [hw7]
  clear hw7 hBF hW6 hO hb6 y0 y1 y2 y3 y4 y5 y6 y7 y8 y9
  refine leaves_cons (f:=39) (args:=#[.pointer (some ⟨w.heap.size+1,0,none⟩),.pointer (some ⟨w.heap.size+2,0,none⟩),.pointer (some ⟨w.heap.size+3,0,none⟩)]) (by simp) (by simp [go_sem]) ?_
  refine (ve _ _ _ _).mono ?_
  rintro e u' w'' ⟨rfl,rfl,hb7⟩
  have kk:=ah hb7
  replace q0:=(kk.1 _ 0 l1').trans q0
  replace q1:=(kk.1 _ 0 l2').trans q1
  replace q2:=(kk.1 _ 1 l2').trans q2
  replace q3:=(kk.1 _ 2 l2').trans q3
  have hFF:=aa (show out.length=sw.length∧Sl 1 fh w'' w''.heap.size (some ⟨w5.heap.size,0,none⟩) out from by
   obtain ⟨vs,h1,h2⟩:=hNF'.out
   have h3:=h1.sl (by rw [h2];exact Hj hsw (by decide))
   exact ⟨h2,((h3.keep aQ fun q hq=>hb7.cell hq).more aQ hb7.size)⟩)
  have hBB:=aa (hBF'.out.trans (hb7.mono hBF'.out.size))
  clear kk hb7 hBF' hNF'
  simp [Leaves,settle,results,results14,go_sem,q0,q1,q2,q3]
  exact ⟨hFF.out.1,hFF.out.2,hBB.out⟩)
end
end Go.Proofs.YtiebolhmdhdagaaGreatDoor

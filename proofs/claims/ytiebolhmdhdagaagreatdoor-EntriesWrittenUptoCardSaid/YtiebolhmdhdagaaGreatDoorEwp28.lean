import Derived.Test.YtiebolhmdhdagaaGreatDoorEwp27
set_option linter.all false
set_option maxHeartbeats 8000000
set_option maxRecDepth 100000
open Go.Proofs.Tryz
namespace Go.Proofs.YtiebolhmdhdagaaGreatDoor
open _root_.Nat renaming lt_of_lt_of_le→He, le_refl→Hh, le_trans→Hj, zero_le→Hm, zero_add→HS, add_zero→HU
open _root_.Go.RowKit.Below renaming refl→Hf
open _root_.Bool renaming false_and→Hg, true_and→Hk, and_eq_true→Hl
open _root_.Go.Calls renaming regrown_of→Hi
open _root_.List renaming getElem?_eq_getElem→Hn, length_map→Hz, getD_eq_getElem?_getD→HT, getElem?_eq_some_iff→HV, mem_append→H0
open _root_.Option renaming bind_some→Hq
open Go.RowKit
structure ER (wr wx:World) (gx gy:Nat) (xs ys:List Value):Prop where
 bel:Below wr.heap.size wr wx
 lx:gx<wx.heap.size
 ly:gy<wx.heap.size
 cx:bz wx gx xs
 cy:bz wx gy ys
theorem Fr (wr:World) (xs ys:List Value) (t:TypeId):ER wr ((wr.alloc (.cells xs.toArray t)).alloc (.cells ys.toArray t)).drew wr.heap.size (wr.heap.size+1) xs ys:=
 ⟨((((Hf _ _).alloc (Hh _) _).alloc (by simp) _).drew),by simp<;>omega,by simp<;>omega,show bz ((wr.alloc (.cells xs.toArray t)).alloc (.cells ys.toArray t)) _ _ from bp (by simp) (ba rfl),show bz ((wr.alloc (.cells xs.toArray t)).alloc (.cells ys.toArray t)) _ _ from ba (by simp)⟩
theorem Fs (wr:World) (xs ys:List Value) (t:TypeId):ER wr ((wr.alloc (.cells ys.toArray t)).alloc (.cells xs.toArray t)).drew (wr.heap.size+1) wr.heap.size xs ys:=
 ⟨((((Hf _ _).alloc (Hh _) _).alloc (by simp) _).drew),by simp<;>omega,by simp<;>omega,show bz ((wr.alloc (.cells ys.toArray t)).alloc (.cells xs.toArray t)) _ _ from ba (by simp),show bz ((wr.alloc (.cells ys.toArray t)).alloc (.cells xs.toArray t)) _ _ from bp (by simp) (ba rfl)⟩
theorem yP (x y:Rn) (A B:Option Addr) (c d:Nat) (w:World) (ha:Sl 2 ke w w.heap.size A x.args) (hb:Sl 2 ke w w.heap.size B y.args):
  Calls prog 28 #[.agg #[.int .i64 x.act,.slice A x.args.length c],.agg #[.int .i64 y.act,.slice B y.args.length d]] w fun e w'=>e=.returned (.bool (decide (x.act=y.act)&&ci iw x.args y.args))∧Below w.heap.size w w':=by
 obtain ⟨xa,xs⟩:=x
 obtain ⟨ya,ys⟩:=y
 simp only at ha hb ⊢
 have hla:=ha.len
 have hlb:=hb.len
 obtain ⟨wa,hwa,hsa,hba,hca,-⟩:=ak w #[.int .i64 xa,.slice A xs.length c] 55
 obtain ⟨wb,hwb,hsb,hbb,hcb,-⟩:=ak wa #[.int .i64 ya,.slice B ys.length d] 55
 have x0:=((ah hbb).1 w.heap.size 0 (by omega)).trans (hca 0)
 have x1:=((ah hbb).1 w.heap.size 1 (by omega)).trans (hca 1)
 rw [hsa] at hcb
 have y0:=hcb 0
 have y1:=hcb 1
 simp at x0 x1 y0 y1
 have l1:w.heap.size<wb.heap.size:=by omega
 have l2:w.heap.size+1<wb.heap.size:=by omega
 have hw:Below w.heap.size w wb:=hba.trans (hbb.mono (by omega))
 have hA':=aa ((ha.below aw hw).more aw hw.size)
 have hB':=aa ((hb.below aw hw).more aw hw.size)
 have hfin:=aa (fun (W:World) (hW:Below wb.heap.size wb W)=>hw.trans (hW.mono hw.size))
 replace hsb:=aa hsb
 clear hca hcb hba hbb ha hb hw
 go_enter func28,ntmps28
 by_cases h0:xa=ya
 ·have r0:(xa !=ya)=false:=by rw [h0];exact bne_self_eq_false _
  have r0':(xa==ya)=true:=by rw [h0];exact beq_self_eq_true _
  have hv0:=aa (show (decide (xa=ya)&&ci iw xs ys)=ci iw xs ys from by rw [decide_eq_true h0,Hk])
  replace h0:=aa h0
  by_cases he:xs.length=ys.length
  ·have hez:((xs.length:Int) !=(ys.length:Int))=false:=by rw [he];exact bne_self_eq_false _
   have hv:=aa (show ci iw xs ys=am (fun i=>aK (fun x=>aK (iw x) ys i) xs i) xs.length from by unfold ci;rw [decide_eq_true he,Hk])
   replace he:=aa he
   go_wp2
   go_loopw [5] (fun i wr=>∃ j:Nat,j≤xs.length∧i=.int .i64 j∧Hid (am (fun i=>aK (fun x=>aK (iw x) ys i) xs i) j=true)∧Hid (Below wb.heap.size wb wr)) (fun i _=>xs.length-(intOf i).toNat)
   case atStart=>exact ⟨0,Hm _,rfl,aa rfl,aa (Hf _ _)⟩
   case round=>
    obtain ⟨j,hj,rfl,hc,hB⟩:=hrel
    have hzr:=hB.out.size
    have kb:=ah hB.out
    have X0:=(kb.1 _ 0 l1).trans x0
    have X1:=(kb.1 _ 1 l1).trans x1
    have Y0:=(kb.1 _ 0 l2).trans y0
    have Y1:=(kb.1 _ 1 l2).trans y1
    have l1r:=He l1 hzr
    have l2r:=He l2 hzr
    clear kb
    by_cases hlt:j<xs.length
    focus
     have hlt':j<ys.length:=by have:=he.out;omega
     have hkz:(j:Int)<(xs.length:Int):=by omega
     have hkz':(j:Int)<(ys.length:Int):=by omega
     obtain ⟨b,o,rfl,hb1,a0,a1,-⟩:=(hA'.out.below aw hB.out).num hlt
     obtain ⟨b',o',rfl,hb2,b0,b1,-⟩:=(hB'.out.below aw hB.out).num hlt'
     have hb1r:=He hb1 hzr
     have hb2r:=He hb2 hzr
     have hg:=aE (show Below wr.heap.size wr wr from Hf _ _) (Hh _)
     have hhi:=aa (fun (g:iw xs[j] ys[j]=true)=>show am (fun i=>aK (fun x=>aK (iw x) ys i) xs i) (j+1)=true from by rw [am,hc.out,Hk,ag _ hlt,ag _ hlt',g])
     have hlo:=aa (fun (g:iw xs[j] ys[j]=false)=>show am (fun i=>aK (fun x=>aK (iw x) ys i) xs i) xs.length=false from aN hlt (by rw [ag _ hlt,ag _ hlt'];exact g))
     have hF:=aa (show iw xs[j] ys[j]=(decide (xs[j].1=ys[j].1)&&(decide (xs[j].2=ys[j].2))) from rfl)
     generalize iw xs[j] ys[j]=F at hhi hlo hF
     generalize xs[j].1=x0 at a0 hF
     generalize ys[j].1=z0 at b0 hF
     generalize xs[j].2=x1 at a1 hF
     generalize ys[j].2=z1 at b1 hF
     clear hA' hB' hc
     by_cases q0:x0=z0
     focus
      rw [←q0] at b0
      have ht0:=q0
      by_cases q1:x1=z1
      focus
       rw [←q1] at b1
       have ht1:=q1
       have hFt:F=true:=by rw [hF.out];simp [ht0,ht1]
       replace hhi:=aa (hhi.out hFt)
       clear hFt hlo hF q0 ht0 q1 ht1
       go_wp2_with fail
       refine bV ?_
       repeat (any_goals (first|go_big_quiet_step (fail)|quiet_step (fail)))
       refine wpQuiet_nil ?_
       intro w1 hw1
       replace hw1:=ac hw1
       go_wp2
       go_roundw
       case rel=>exact ⟨j+1,by omega,by go_num,hhi,aa (hB.out.trans (hw1.mono hzr))⟩
       case measure=>simp [intOf];omega
      rotate_right
      have r1:(x1==z1)=false:=beq_eq_false_iff_ne.2 q1
      have s1:(x1=z1)=False:=eq_false q1
      have t1:decide (x1=z1)=false:=decide_eq_false q1
      have hFf:F=false:=by rw [hF.out];simp [ht0,q1]
      replace hlo:=aa (hlo.out hFf)
      clear hFf hhi hF q1 q0 ht0
     rotate_right
     have r0:(x0==z0)=false:=beq_eq_false_iff_ne.2 q0
     have s0:(x0=z0)=False:=eq_false q0
     have t0:decide (x0=z0)=false:=decide_eq_false q0
     have hFf:F=false:=by rw [hF.out];simp [q0]
     replace hlo:=aa (hlo.out hFf)
     clear hFf hhi hF q0
    rotate_right
    focus
     have hke:j=xs.length:=by omega
     subst hke
     go_wp2
     go_ret
     exact ⟨ad (by rw [hv0.out,hv.out,hc.out]),hfin.out _ hB.out⟩
    all_goals
     go_wp2_with fail
     refine bV ?_
     repeat (any_goals (first|go_big_quiet_step (fail)|quiet_step (fail)))
     refine wpQuiet_nil ?_
     intro w1 hw1
     replace hw1:=ac hw1
     go_wp2
     go_ret
     exact ⟨ad (by rw [hv0.out,hv.out,hlo.out]),hfin.out _ (hB.out.trans (hw1.mono hzr))⟩
  ·have hez:((xs.length:Int) !=(ys.length:Int))=true:=by rw [bne_iff_ne];omega
   have hv:=aa (show ci iw xs ys=false from by unfold ci;rw [decide_eq_false he,Hg])
   go_wp2
   go_ret
   exact ⟨ad (by rw [hv0.out,hv.out]),hfin.out _ (Hf _ _)⟩
 ·have r0:(xa !=ya)=true:=bne_iff_ne.2 h0
  have r0':(xa==ya)=false:=beq_eq_false_iff_ne.2 h0
  have s0:(xa=ya)=False:=eq_false h0
  have hv0:=aa (show (decide (xa=ya)&&ci iw xs ys)=false from by rw [decide_eq_false h0,Hg])
  replace h0:=aa h0
  go_wp2
  go_ret
  exact ⟨ad hv0.out.symm,hfin.out _ (Hf _ _)⟩
theorem p9 (xs ys:List aR) (A B:Option Addr) (c d:Nat) (w:World) (ha:Sl 6 fT w w.heap.size A xs) (hb:Sl 6 fT w w.heap.size B ys):
  Calls prog 10 #[.slice A xs.length c,.slice B ys.length d] w fun e w'=>e=.returned (.bool (pC xs ys))∧Below w.heap.size w w':=by
 have hla:=ha.len
 have hlb:=hb.len
 unfold pC
 have ha':=aa ha
 have hb':=aa hb
 clear ha hb
 go_enter func10,ntmps10
 by_cases he:xs.length=ys.length
 ·have hez:((xs.length:Int) !=(ys.length:Int))=false:=by rw [he];exact bne_self_eq_false _
  have hv:=aa (show ci dY xs ys=am (fun i=>aK (fun x=>aK (dY x) ys i) xs i) xs.length from by unfold ci;rw [decide_eq_true he,Hk])
  replace he:=aa he
  generalize ci dY xs ys=RES at hv ⊢
  go_wp2
  go_loopw [5,6,7,8] (fun i _ _ _ wr=>∃ j:Nat,j≤xs.length∧i=.int .i64 j∧Hid (am (fun i=>aK (fun x=>aK (dY x) ys i) xs i) j=true)∧Hid (Below w.heap.size w wr)) (fun i _ _ _ _=>xs.length-(intOf i).toNat)
  case atStart=>exact ⟨0,Hm _,rfl,aa rfl,aa (Hf _ _)⟩
  case round=>
   obtain ⟨j,hj,rfl,hc,hB⟩:=hrel
   have hzr:=hB.out.size
   by_cases hlt:j<xs.length
   ·have hlt':j<ys.length:=by have:=he.out;omega
    have hkz:(j:Int)<(xs.length:Int):=by omega
    have hkz':(j:Int)<(ys.length:Int):=by omega
    obtain ⟨b,o,P1,P2,c1,c2,rfl,hb1,a0,a1,a2,a3,a4,a5,s1,s2⟩:=(ha'.out.below bh hB.out).ent hlt
    obtain ⟨b',o',Q1,Q2,d1,d2,rfl,hb2,b0,b1',b2',b3,b4,b5,s3,s4⟩:=(hb'.out.below bh hB.out).ent hlt'
    have hhi:=aa (fun (g:dY xs[j] ys[j]=true)=>show am (fun i=>aK (fun x=>aK (dY x) ys i) xs i) (j+1)=true from by rw [am,hc.out,Hk,ag _ hlt,ag _ hlt',g])
    have hlo:=aa (fun (g:dY xs[j] ys[j]=false)=>show am (fun i=>aK (fun x=>aK (dY x) ys i) xs i) xs.length=false from aN hlt (by rw [ag _ hlt,ag _ hlt'];exact g))
    have hE:=aa (show dY xs[j] ys[j]=(decide (xs[j].tab=ys[j].tab)&&(ci kC xs[j].pats ys[j].pats&&(decide (xs[j].len=ys[j].len)&&(decide (xs[j].prio=ys[j].prio)&&(decide (xs[j].run.act=ys[j].run.act)&&ci iw xs[j].run.args ys[j].run.args))))) from rfl)
    have hl1:=s1.len
    have hl3:=s3.len
    generalize dY xs[j] ys[j]=F at hhi hlo hE
    generalize xs[j]=x at*
    generalize ys[j]=y at*
    obtain ⟨xt,xp,xl,xr,xn⟩:=x
    obtain ⟨yt,yp,yl,yr,yn⟩:=y
    simp only at s1 s2 s3 s4 a0 a1 a2 a3 a4 a5 b0 b1' b2' b3 b4 b5 hE hl1 hl3
    have hb1r:=He hb1 hzr
    have hb2r:=He hb2 hzr
    go_upto_region 6 with fail
    go_cut [6,7] (fun vx vy wx=>∃ gx gy,vx=.pointer (some ⟨gx,0,none⟩)∧vy=.pointer (some ⟨gy,0,none⟩)∧Hid (ER wr wx gx gy [.int .i64 xt,.slice P1 xp.length c1,.int .i64 xl,.int .i64 xr,.int .i64 xn.act,.slice P2 xn.args.length c2] [.int .i64 yt,.slice Q1 yp.length d1,.int .i64 yl,.int .i64 yr,.int .i64 yn.act,.slice Q2 yn.args.length d2]))
    case first=>
     clear s1 s2 s3 s4 ha' hb' hhi hlo hE hc
     go_region
     all_goals go_wp2
     all_goals go_meet
     all_goals first|exact ⟨_,_,rfl,rfl,aa (Fr _ _ _ _)⟩|exact ⟨_,_,rfl,rfl,aa (Fs _ _ _ _)⟩
    obtain ⟨gx,gy,rfl,rfl,hXY⟩:=hcut
    obtain ⟨wn,rfl⟩:∃ wn:World,wn=wc:=⟨_,rfl⟩
    obtain ⟨hB1,l1,l2,cx,cy⟩:=hXY.out
    have x0:wn.cell? ⟨gx,0,none⟩=_:=cx 0 _ rfl
    have x1:wn.cell? ⟨gx,1,none⟩=_:=cx 1 _ rfl
    have x2:wn.cell? ⟨gx,2,none⟩=_:=cx 2 _ rfl
    have x3:wn.cell? ⟨gx,3,none⟩=_:=cx 3 _ rfl
    have x4:wn.cell? ⟨gx,4,none⟩=_:=cx 4 _ rfl
    have x5:wn.cell? ⟨gx,5,none⟩=_:=cx 5 _ rfl
    have y0:wn.cell? ⟨gy,0,none⟩=_:=cy 0 _ rfl
    have y1:wn.cell? ⟨gy,1,none⟩=_:=cy 1 _ rfl
    have y2:wn.cell? ⟨gy,2,none⟩=_:=cy 2 _ rfl
    have y3:wn.cell? ⟨gy,3,none⟩=_:=cy 3 _ rfl
    have y4:wn.cell? ⟨gy,4,none⟩=_:=cy 4 _ rfl
    have y5:wn.cell? ⟨gy,5,none⟩=_:=cy 5 _ rfl
    clear a0 a1 a2 a3 a4 a5 b0 b1' b2' b3 b4 b5 cx cy hXY
    have hbw:=aa (hB.out.trans (hB1.mono hzr))
    have hP:=aa (fun (W:World) (hW:Below wn.heap.size wn W)=>(⟨(s1.keep aL fun q hq=>((hW.cell (He hq (Hj hzr hB1.size))).trans (hB1.cell (He hq hzr)))),s3.keep aL fun q hq=>((hW.cell (He hq (Hj hzr hB1.size))).trans (hB1.cell (He hq hzr)))⟩:Sl 4 mR W w.heap.size P1 xp∧Sl 4 mR W w.heap.size Q1 yp))
    have hSR:=aa (fun (W:World) (hW:Below wn.heap.size wn W)=>yP xn yn P2 Q2 c2 d2 W ((s2.keep aw fun q hq=>((hW.cell (He hq (Hj hzr hB1.size))).trans (hB1.cell (He hq hzr)))).more aw (Hj (Hj hzr hB1.size) hW.size)) ((s4.keep aw fun q hq=>((hW.cell (He hq (Hj hzr hB1.size))).trans (hB1.cell (He hq hzr)))).more aw (Hj (Hj hzr hB1.size) hW.size)))
    clear hB1 s1 s2 s3 s4
    have hE2:=aa (show F=((decide (xt=yt)&&(decide (xl=yl)&&(decide (xr=yr)&&((decide (xn.act=yn.act)&&ci iw xn.args yn.args)&&decide (xp.length=yp.length)))))&&am (fun i=>aK (fun p=>aK (kC p) yp i) xp i) xp.length) from by
     rw [hE.out,show ci kC xp yp=(decide (xp.length=yp.length)&&am (fun i=>aK (fun p=>aK (kC p) yp i) xp i) xp.length) from rfl]
     generalize decide (xt=yt)=d0
     generalize decide (xl=yl)=d1
     generalize decide (xr=yr)=d2
     generalize (decide (xn.act=yn.act)&&ci iw xn.args yn.args)=d3
     generalize decide (xp.length=yp.length)=d4
     generalize am (fun i=>aK (fun p=>aK (kC p) yp i) xp i) xp.length=d5
     revert d0 d1 d2 d3 d4 d5;decide)
    clear hE
    generalize (decide (xn.act=yn.act)&&ci iw xn.args yn.args)=RN at hE2 hSR
    obtain ⟨G,hG⟩:∃ G,G=(decide (xt=yt)&&(decide (xl=yl)&&(decide (xr=yr)&&(RN&&decide (xp.length=yp.length))))):=⟨_,rfl⟩
    rw [←hG] at hE2
    replace hG:=aa hG
    generalize xn.act=xna at*
    generalize yn.act=yna at*
    generalize xn.args=xnl at*
    generalize yn.args=ynl at*
    replace hSR:=aa (hSR.out wn (Hf _ _))
    have hgw:=aE (show Below wn.heap.size wn wn from Hf _ _) (Hh _)
    go_upto_region 7 with fail
    go_cut [63] (fun v wx=>v=.bool (!G)∧Hid (Below wn.heap.size wn wx))
    case first=>
     clear hhi hlo hE2 hP hbw hc hB
     by_cases q0:xt=yt
     focus
      have r0:(xt !=yt)=false:=by rw [q0];exact bne_self_eq_false _
      replace hG:=aa (hG.out.trans (by rw [decide_eq_true q0,Hk]))
      replace q0:=aa q0
      by_cases q1:xl=yl
      focus
       have r1:(xl !=yl)=false:=by rw [q1];exact bne_self_eq_false _
       replace hG:=aa (hG.out.trans (by rw [decide_eq_true q1,Hk]))
       replace q1:=aa q1
       by_cases q2:xr=yr
       focus
        have r2:(xr !=yr)=false:=by rw [q2];exact bne_self_eq_false _
        replace hG:=aa (hG.out.trans (by rw [decide_eq_true q2,Hk]))
        replace q2:=aa q2
        cases RN
        replace hG:=aa (hG.out.trans (Hg _))
        rotate_right
        focus
         replace hG:=aa (hG.out.trans (Hk _))
         by_cases q3:xp.length=yp.length
         have r3:((xp.length:Int) !=(yp.length:Int))=false:=by rw [q3];exact bne_self_eq_false _
         replace hG:=aa (hG.out.trans (decide_eq_true q3))
         replace q3:=aa q3
         rotate_right
         have r3:((xp.length:Int) !=(yp.length:Int))=true:=by rw [bne_iff_ne];omega
         replace hG:=aa (hG.out.trans (decide_eq_false q3))
         replace q3:=aa q3
       rotate_right
       focus
        have r2:(xr !=yr)=true:=bne_iff_ne.2 q2
        replace hG:=aa (hG.out.trans (by rw [decide_eq_false q2,Hg]))
        replace q2:=aa q2
        go_wp2
        go_meet
        exact ⟨by rw [hG.out];rfl,aa (Hf _ _)⟩
      rotate_right
      focus
       have r1:(xl !=yl)=true:=bne_iff_ne.2 q1
       replace hG:=aa (hG.out.trans (by rw [decide_eq_false q1,Hg]))
       replace q1:=aa q1
       go_wp2
       go_meet
       exact ⟨by rw [hG.out];rfl,aa (Hf _ _)⟩
     rotate_right
     focus
      have r0:(xt !=yt)=true:=bne_iff_ne.2 q0
      replace hG:=aa (hG.out.trans (by rw [decide_eq_false q0,Hg]))
      replace q0:=aa q0
      go_wp2
      go_meet
      exact ⟨by rw [hG.out];rfl,aa (Hf _ _)⟩
     all_goals
      go_wp2_with (go_at_call 28;refine hSR.out.mono ?_;rintro e w7 ⟨rfl,hw7⟩;have kk:=ah hw7;replace x1:=(kk.1 _ 1 l1).trans x1;replace y1:=(kk.1 _ 1 l2).trans y1;have l3:=He l1 hw7.size;have l4:=He l2 hw7.size;clear kk)
      go_meet
      exact ⟨by rw [hG.out];rfl,aa hw7⟩
    case rest=>
     clear hgw hSR x0 x2 x3 x4 x5 y0 y2 y3 y4 y5
     obtain ⟨rfl,hb7⟩:=hcut
     obtain ⟨w7,rfl⟩:∃ w7:World,w7=wc:=⟨_,rfl⟩
     cases G with
     |false=>
      replace hlo:=aa (hlo.out (by rw [hE2.out,Hg]))
      go_wp2
      go_ret
      exact ⟨ad (by rw [hv.out,hlo.out]),hbw.out.trans (hb7.out.mono hbw.out.size)⟩
     |true=>
      have hpl:xp.length=yp.length:=by
       have:=hG.out.symm
       simp only [Hl,decide_eq_true_eq] at this
       exact this.2.2.2.2
      replace hpl:=aa hpl
      replace hE2:=aa (hE2.out.trans (Hk _))
      clear hG
      simp only [Bool.not_true]
      go_wp2
      obtain ⟨wo,rfl⟩:∃ wo:World,wo=wr:=⟨_,rfl⟩
      go_loopw [8] (fun v8 wx=>∃ k:Nat,k≤xp.length∧v8=.int .i64 k∧Hid (am (fun i=>aK (fun p=>aK (kC p) yp i) xp i) k=true)∧Hid (Below wn.heap.size wn wx)) (fun v8 _=>xp.length-(intOf v8).toNat)
      case atStart=>exact ⟨0,Hm _,rfl,aa rfl,hb7⟩
      case round=>
       clear hb7
       obtain ⟨k,hk,rfl,hck,hbr⟩:=hrel
       have hzk:=hbr.out.size
       have kb:=ah hbr.out
       have X1:=(kb.1 _ 1 l1).trans x1
       have Y1:=(kb.1 _ 1 l2).trans y1
       have l1r:=He l1 hzk
       have l2r:=He l2 hzk
       clear kb
       by_cases hklt:k<xp.length
       focus
        have hklt':k<yp.length:=by have:=hpl.out;omega
        have hkkz:(k:Int)<(xp.length:Int):=by omega
        have hkkz':(k:Int)<(yp.length:Int):=by omega
        obtain ⟨hp1,hp2⟩:=hP.out wr hbr.out
        obtain ⟨b,o,rfl,hb1,a0,a1,a2,a3,-⟩:=hp1.pt hklt
        obtain ⟨b',o',rfl,hb2,b0,b1,b2,b3,-⟩:=hp2.pt hklt'
        have hbwz:=hbw.out.size
        have hb1r:b<wr.heap.size:=by omega
        have hb2r:b'<wr.heap.size:=by omega
        have hg:=aE (show Below wr.heap.size wr wr from Hf _ _) (Hh _)
        have hkhi:=aa (fun (g:kC xp[k] yp[k]=true)=>show am (fun i=>aK (fun p=>aK (kC p) yp i) xp i) (k+1)=true from by rw [am,hck.out,Hk,ag _ hklt,ag _ hklt',g])
        have hklo:=aa (fun (g:kC xp[k] yp[k]=false)=>hlo.out (hE2.out.trans (aN hklt (by rw [ag _ hklt,ag _ hklt'];exact g))))
        have hF:=aa (show kC xp[k] yp[k]=(decide (xp[k].vh=yp[k].vh)&&(decide (xp[k].vl=yp[k].vl)&&(decide (xp[k].mh=yp[k].mh)&&decide (xp[k].ml=yp[k].ml)))) from rfl)
        generalize kC xp[k] yp[k]=FP at hkhi hklo hF
        generalize xp[k].vh=u0 at a0 hF
        generalize yp[k].vh=z0 at b0 hF
        generalize xp[k].vl=u1 at a1 hF
        generalize yp[k].vl=z1 at b1 hF
        generalize xp[k].mh=u2 at a2 hF
        generalize yp[k].mh=z2 at b2 hF
        generalize xp[k].ml=u3 at a3 hF
        generalize yp[k].ml=z3 at b3 hF
        clear hp1 hp2 hck hP hlo hhi hE2
        by_cases q0:u0=z0
        focus
         rw [←q0] at b0
         have ht0:=q0
         by_cases q1:u1=z1
         focus
          rw [←q1] at b1
          have ht1:=q1
          by_cases q2:u2=z2
          focus
           rw [←q2] at b2
           have ht2:=q2
           by_cases q3:u3=z3
           focus
            rw [←q3] at b3
            have ht3:=q3
            have hFt:FP=true:=by rw [hF.out];simp [ht0,ht1,ht2,ht3]
            replace hkhi:=aa (hkhi.out hFt)
            clear hFt hklo hF q0 ht0 q1 ht1 q2 ht2 q3 ht3
            go_wp2_with fail
            refine bV ?_
            repeat (any_goals (first|go_big_quiet_step (fail)|quiet_step (fail)))
            refine wpQuiet_nil ?_
            intro w1 hw1
            replace hw1:=ac hw1
            go_wp2
            go_roundw
            case rel=>exact ⟨k+1,by omega,by go_num,hkhi,aa (hbr.out.trans (hw1.mono hzk))⟩
            case measure=>simp [intOf];omega
           rotate_right
           have r3:(u3==z3)=false:=beq_eq_false_iff_ne.2 q3
           have s3:(u3=z3)=False:=eq_false q3
           have t3:decide (u3=z3)=false:=decide_eq_false q3
           have hFf:FP=false:=by rw [hF.out];simp [ht0,ht1,ht2,q3]
           replace hklo:=aa (hklo.out hFf)
           clear hFf hkhi hF q3 q0 ht0 q1 ht1 q2 ht2
          rotate_right
          have r2:(u2==z2)=false:=beq_eq_false_iff_ne.2 q2
          have s2:(u2=z2)=False:=eq_false q2
          have t2:decide (u2=z2)=false:=decide_eq_false q2
          have hFf:FP=false:=by rw [hF.out];simp [ht0,ht1,q2]
          replace hklo:=aa (hklo.out hFf)
          clear hFf hkhi hF q2 q0 ht0 q1 ht1
         rotate_right
         have r1:(u1==z1)=false:=beq_eq_false_iff_ne.2 q1
         have s1:(u1=z1)=False:=eq_false q1
         have t1:decide (u1=z1)=false:=decide_eq_false q1
         have hFf:FP=false:=by rw [hF.out];simp [ht0,q1]
         replace hklo:=aa (hklo.out hFf)
         clear hFf hkhi hF q1 q0 ht0
        rotate_right
        have r0:(u0==z0)=false:=beq_eq_false_iff_ne.2 q0
        have s0:(u0=z0)=False:=eq_false q0
        have t0:decide (u0=z0)=false:=decide_eq_false q0
        have hFf:FP=false:=by rw [hF.out];simp [q0]
        replace hklo:=aa (hklo.out hFf)
        clear hFf hkhi hF q0
       rotate_right
       focus
        have hke:k=xp.length:=by omega
        subst hke
        replace hhi:=aa (hhi.out (hE2.out.trans hck.out))
        go_wp2
        go_roundw
        case rel=>exact ⟨j+1,by omega,by go_num,hhi,aa (hbw.out.trans (hbr.out.mono hbw.out.size))⟩
        case measure=>simp [intOf];omega
       all_goals
        go_wp2_with fail
        refine bV ?_
        repeat (any_goals (first|go_big_quiet_step (fail)|quiet_step (fail)))
        refine wpQuiet_nil ?_
        intro w1 hw1
        replace hw1:=ac hw1
        go_wp2
        go_ret
        exact ⟨ad (by rw [hv.out,hklo.out]),hbw.out.trans ((hbr.out.trans (hw1.mono hzk)).mono hbwz)⟩
   ·have hke:j=xs.length:=by omega
    subst hke
    go_wp2
    go_ret
    exact ⟨ad (by rw [hv.out,hc.out]),hB.out⟩
 ·have hez:((xs.length:Int) !=(ys.length:Int))=true:=by rw [bne_iff_ne];omega
  have hv:=aa (show ci dY xs ys=false from by unfold ci;rw [decide_eq_false he,Hg])
  go_wp2
  go_ret
  exact ⟨ad hv.out.symm,Hf _ _⟩
theorem jQ (xs ys:List (List aR)) (A B:Option Addr) (c d:Nat) (w:World) (ha:Sl 1 fh w w.heap.size A xs) (hb:Sl 1 fh w w.heap.size B ys) (hE:xs=ys):
  Calls prog 15 #[.slice A xs.length c,.slice B ys.length d] w fun e w'=>e=.returned (.bool true)∧Below w.heap.size w w':=by
 have hla:=ha.len
 subst hE
 have ha':=aa ha
 have hb':=aa hb
 clear ha hb
 go_enter func15,ntmps15
 go_wp2
 go_loopw [5] (fun i wr=>∃ j:Nat,j≤xs.length∧i=.int .i64 j∧Hid (Below w.heap.size w wr)) (fun i _=>xs.length-(intOf i).toNat)
 case atStart=>exact ⟨0,Hm _,rfl,aa (Hf _ _)⟩
 case round=>
  obtain ⟨j,hj,rfl,hB⟩:=hrel
  by_cases hlt:j<xs.length
  ·have hkz:(j:Int)<(xs.length:Int):=by omega
   obtain ⟨b,o,A1,c1,hA1,hb1,a1,s1⟩:=(ha'.out.below aQ hB.out).ents hlt
   obtain ⟨b',o',B1,d1,hA2,hb2,b1,s2⟩:=(hb'.out.below aQ hB.out).ents hlt
   subst hA1 hA2
   have hzr:=hB.out.size
   have hb1r:=He hb1 hzr
   have hb2r:=He hb2 hzr
   have hC:=aa (fun (W:World) (hW:Below wr.heap.size wr W)=>(p9 xs[j] xs[j] A1 B1 c1 d1 W ((s1.keep bh fun q hq=>hW.cell (He hq hzr)).more bh (Hj hzr hW.size)) ((s2.keep bh fun q hq=>hW.cell (He hq hzr)).more bh (Hj hzr hW.size))).mono fun e w' h=>(⟨by rw [h.1,nG],h.2⟩:e=.returned (.bool true)∧Below W.heap.size W w'))
   have hgw:=aE (show Below wr.heap.size wr wr from Hf _ _) (Hh _)
   generalize xs[j]=x at*
   clear s1 s2 ha' hb'
   go_wp2_with fail
   refine bV ?_
   repeat (any_goals (first|go_big_quiet_step ((go_at_call 10;with_reducible exact Hi (hC.out _ (below_regrown wr _ _))))|quiet_step ((go_at_call 10;with_reducible exact Hi (hC.out _ (below_regrown wr _ _))))))
   refine wpQuiet_nil ?_
   intro w1 hw1
   replace hw1:=ac hw1
   go_wp2
   go_roundw
   case rel=>exact ⟨j+1,by omega,by go_num,aa (hB.out.trans (hw1.mono hzr))⟩
   case measure=>simp [intOf];omega
  ·have hke:j=xs.length:=by omega
   subst hke
   go_wp2
   go_ret
   exact ⟨rfl,hB.out⟩
def lD (x:aR×Value×Value):List Value:= [.int .i64 x.1.tab,x.2.1,.int .i64 x.1.len,.int .i64 x.1.prio,.int .i64 x.1.run.act,x.2.2]
def rr (w:World) (B:Nat) (v:Value) (l:List aR):Prop:=∃ ps:List (aR×Value×Value),ps.map (·.1)=l∧w.ownsRow B 57 6 v ps.length (ps.flatMap lD)∧∀ x∈ps,Bn w B x.2.1 x.1.pats∧oN w B x.2.2 x.1.run.args
theorem rr.nil_ (w:World) (B:Nat):rr w B (.slice none 0 0) []:=⟨[],rfl,World.ownsRow_nil _ _ _ _,fun x hx=>by simp at hx⟩
theorem rr.form {w:World} {B:Nat} {v:Value} {l:List aR} (h:rr w B v l):∃ A c,v=.slice A l.length c:=by
 obtain ⟨ps,rfl,h1,-⟩:=h
 obtain ⟨A,c,e⟩:=bO h1
 exact ⟨A,c,by rw [e,Hz]⟩
theorem rr.grg {w w':World} {B g:Nat} {v:Value} {l:List aR} (h:rr w B v l) (hG:ay g w w') (hg:g<B):rr w' B v l:=by
 obtain ⟨ps,h0,h1,h2⟩:=h
 exact ⟨ps,h0,aZ h1 hG hg,fun x hx=>⟨⟨(h2 x hx).1.1,aZ (h2 x hx).1.2 hG hg⟩,⟨(h2 x hx).2.1,aZ (h2 x hx).2.2 hG hg⟩⟩⟩
theorem rr.sl {w:World} {B:Nat} {v:Value} {l:List aR} (h:rr w B v l):∃ A c,v=.slice A l.length c∧Sl 6 fT w w.heap.size A l:=by
 obtain ⟨ps,rfl,h1,h2⟩:=h
 obtain ⟨A,c,rfl,hS⟩:=j4 (R:=fun w B cs (x:aR×Value×Value)=>fT w B cs x.1) (f:=lD) (fun _=>rfl) (fun x hx=>by
  obtain ⟨hp,hn⟩:=h2 x hx
  obtain ⟨A1,c1,e1,s1⟩:=hp.sl
  obtain ⟨A2,c2,e2,s2⟩:=hn.sl
  exact ⟨A1,c1,A2,c2,by unfold lD;rw [e1,e2],s1,s2⟩) h1
 refine ⟨A,c,by rw [Hz],by rw [Hz];exact hS.1,fun i x hx=> ?_⟩
 rw [List.getElem?_map] at hx
 cases hp:ps[i]? with
 |none=>rw [hp] at hx;cases hx
 |some y=>
  rw [hp] at hx
  injection hx with hx
  subst hx
  exact hS.2 i y hp
structure eH (w:World) (B og:Nat) (vs:List Value) (out:List (List aR)):Prop where
 bx:w.heap[og]? =some (.cells vs.toArray 38 (0,0))
 ob:B≤og
 len:vs.length=out.length
 row:∀ (i:Nat) (v:Value) (l:List aR),vs[i]? =some v→out[i]? =some l→rr w B v l
 ne:∀ (i j:Nat) (v u:Value),i≠j→vs[i]? =some v→vs[j]? =some u→v.ownBlock=none∨v.ownBlock≠u.ownBlock
theorem eH.lt {w:World} {B og:Nat} {vs:List Value} {out:List (List aR)} (h:eH w B og vs out):og<w.heap.size:=bL h.bx
theorem eH.grg {w w':World} {B og g:Nat} {vs:List Value} {out:List (List aR)} (h:eH w B og vs out) (hG:ay g w w') (hg:g<B):eH w' B og vs out:=
 ⟨(hG.blk h.lt (by have:=h.ob;omega)).trans h.bx,h.ob,h.len,fun i v l a b=>(h.row i v l a b).grg hG hg,h.ne⟩
theorem eH.cell {w:World} {B og:Nat} {vs:List Value} {out:List (List aR)} (h:eH w B og vs out) {i:Nat} (hi:i<out.length):∃ A c,vs[i]? =some (.slice A (out.getD i []).length c)∧w.cell? ⟨og,i,none⟩=some (.slice A (out.getD i []).length c)∧w.frozen? ⟨og,i,none⟩=false:=by
 have hv:i<vs.length:=by rw [h.len];exact hi
 obtain ⟨A,c,e⟩:=(h.row i vs[i] out[i] (Hn hv) (Hn hi)).form
 have e2:out.getD i []=out[i]:=by rw [HT,Hn hi];rfl
 have e3:vs[i]? =some (.slice A (out.getD i []).length c):=by rw [Hn hv,e,e2]
 exact ⟨A,c,e3,(bn h.bx i).trans (by simpa using e3),fW h.bx i⟩
theorem eH.sl {w:World} {B og:Nat} {vs:List Value} {out:List (List aR)} (h:eH w B og vs out) (hm:out.length≤maxLen):Sl 1 fh w w.heap.size (some ⟨og,0,none⟩) out:=by
 refine ⟨hm,fun i l hl=> ?_⟩
 have hi:i<out.length:=(HV.1 hl).1
 have hv:i<vs.length:=by rw [h.len];exact hi
 obtain ⟨A,c,e,hS⟩:=(h.row i vs[i] l (Hn hv) hl).sl
 refine ⟨og,0,[vs[i]],rfl,h.lt,rfl,fun j u hu=> ?_,A,c,by rw [e],hS⟩
 cases j with
 |zero=>
  simp at hu
  subst hu
  rw [Nat.mul_one,HS,HU,bn h.bx i]
  simp [hv]
 |succ j=>simp at hu
theorem rr.kept {w w':World} {B:Nat} {v:Value} {l:List aR} {row:Option Nat} (h:rr w B v l) (hg:w.grownBy w' row) (hK:yL 57 w w') (hne:v.ownBlock=none∨v.ownBlock≠row):rr w' B v l:=by
 obtain ⟨ps,h0,h1,h2⟩:=h
 exact ⟨ps,h0,World.ownsRow.kept h1 hg hne,fun x hx=>⟨⟨(h2 x hx).1.1,dw (h2 x hx).1.2 hK (by decide)⟩,⟨(h2 x hx).2.1,dw (h2 x hx).2.2 hK (by decide)⟩⟩⟩
theorem n7 {w:World} {base k n og i:Nat} {e t:TypeId} {v u:Value} {xs:List Value} {cs:Array Value} {fr:Nat×Nat} (h:w.ownsRow base e k v n xs) (hk:w.heap[og]? =some (.cells cs t fr)) (hne:t≠e):(w.setCell ⟨og,i,none⟩ u).ownsRow base e k v n xs:=by
 refine ⟨h.1,?_⟩
 rcases h.2 with h2|⟨b,cap,cur,rfl,hb,hh,r⟩
 ·exact .inl h2
 ·refine .inr ⟨b,cap,cur,rfl,hb,?_,r⟩
  rw [cg]
  ·exact hh
  ·rintro rfl
   rw [hk] at hh
   injection hh with hh
   injection hh with h1 h2
   exact hne h2
theorem rr.setT {w:World} {B og i:Nat} {v u:Value} {l:List aR} {cs:Array Value} {fr:Nat×Nat} (h:rr w B v l) (hk:w.heap[og]? =some (.cells cs 38 fr)):rr (w.setCell ⟨og,i,none⟩ u) B v l:=by
 obtain ⟨ps,h0,h1,h2⟩:=h
 exact ⟨ps,h0,n7 h1 hk (by decide),fun x hx=>⟨⟨(h2 x hx).1.1,n7 (h2 x hx).1.2 hk (by decide)⟩,⟨(h2 x hx).2.1,n7 (h2 x hx).2.2 hk (by decide)⟩⟩⟩
theorem eH.push {W:World} {B og i:Nat} {vs:List Value} {out:List (List aR)} {v v1 v2:Value} {e:aR} (h:eH W B og vs out) (hB:B≤W.heap.size) (hi:i<out.length) (hv:vs[i]? =some v) (h1:Bn W B v1 e.pats) (h2:oN W B v2 e.run.args) (hz:(out.getD i []).length<1000):
  ∃ v' w',(eO #[38,38] 38 #[v,.slice (some ⟨W.heap.size,0,none⟩) 1 1]).run prog (W.alloc (.cells #[.int .i64 e.tab,v1,.int .i64 e.len,.int .i64 e.prio,.int .i64 e.run.act,v2] 57))=.ok v' w'∧
   eH (w'.setCell ⟨og,i,none⟩ v') B og (vs.set i v') (out.set i (out.getD i []++ [e]))∧Below B W w'∧w'.cell? ⟨og,i,none⟩=some v∧w'.frozen? ⟨og,i,none⟩=false∧og<w'.heap.size:=by
 have hvi:i<vs.length:=by rw [h.len];exact hi
 have e2:out.getD i []=out[i]:=by rw [HT,Hn hi];rfl
 rw [e2] at hz ⊢
 obtain ⟨ps,p0,p1,p2⟩:=h.row i v out[i] hv (Hn hi)
 obtain ⟨ii,hii,hzi0,hzi1,hzi2⟩:=info_parts yi
 have hlen:ps.length=out[i].length:=by rw [←p0,Hz]
 have f1:∃ A c,v1=.slice A e.pats.length c:=bO h1.2
 have f2:∃ A c,v2=.slice A e.run.args.length c:=bO h2.2
 obtain ⟨A1,d1,f1⟩:=f1
 obtain ⟨A2,d2,f2⟩:=f2
 have hone:∀ u∈lD (e,v1,v2),u.oneCell'=true:=fun u hu=>by
  simp [lD] at hu
  rw [f1,f2] at hu
  rcases hu with rfl|rfl|rfl|rfl|rfl|rfl<;>rfl
 obtain ⟨v',w',hrun,q2,q3,_,q5⟩:=run_append_own_at (P:=prog) (W.alloc (.cells (lD (e,v1,v2)).toArray 57)) B 38 38 57 ii _ 6 80 underlying38 hii hzi0 hzi1 hzi2 rfl (by omega) v ps.length _ (World.ownsRow.alloc p1 _) ⟨W.heap.size,0,none⟩ 1 1 (lD (e,v1,v2)) rfl (World.news_of_block (cs:=(lD (e,v1,v2)).toArray) (t:=57) (fr:=(0,0)) (heap_alloc_new W _)) hone (by simp [maxLen];omega) (by omega) (by simp;omega)
 have hb:Below B W w':=((Hf _ _).alloc hB _).grown q3 (by simp;omega) (fun g e=>(p1.lt g e).1)
 have hK:=jc p1 q3
 have hgW:W.grownBy w' v.ownBlock:=⟨q3.os,q3.tape,q3.output,Hj (by simp) q3.size,fun k hk hn=>(q3.block k (by simp;omega) hn).trans (((Hf W.heap.size W).alloc (Hh _) _).block k hk)⟩
 have hk':w'.heap[og]? =some (.cells vs.toArray 38 (0,0)):=hK _ _ _ _ h.bx (by decide)
 refine ⟨v',w',hrun,⟨?_,h.ob,by simp [h.len],?_,?_⟩,hb,(bn hk' i).trans (by simpa using hv),fW hk' i,bL hk'⟩
 ·rw [bC hk']
  simp
 ·intro j u l hu hl
  by_cases hj:i=j
  ·subst hj
   rw [List.getElem?_set_self hvi] at hu
   rw [List.getElem?_set_self hi] at hl
   injection hu with hu
   injection hl with hl
   subst hu hl
   refine rr.setT ⟨ps++ [(e,v1,v2)],by rw [List.map_append,p0];rfl,by simpa using q2,fun x hx=> ?_⟩ hk'
   rcases H0.1 hx with hx|hx
   ·exact ⟨⟨(p2 x hx).1.1,dw (p2 x hx).1.2 hK (by decide)⟩,⟨(p2 x hx).2.1,dw (p2 x hx).2.2 hK (by decide)⟩⟩
   ·rw [List.mem_singleton] at hx
    subst hx
    exact ⟨⟨h1.1,dw h1.2 hK (by decide)⟩,⟨h2.1,dw h2.2 hK (by decide)⟩⟩
  ·rw [List.getElem?_set_ne hj] at hu hl
   exact ((h.row j u l hu hl).kept hgW hK (h.ne j i u v (Ne.symm hj) hu hv)).setT hk'
 ·have hfar:∀ (j:Nat) (u:Value),i≠j→vs[j]? =some u→(u.ownBlock=none∨u.ownBlock≠v'.ownBlock)∧(v'.ownBlock=none∨v'.ownBlock≠u.ownBlock):=fun j u hj hu=>by
   have hjl:j<out.length:=by rw [←h.len];exact (HV.1 hu).1
   obtain ⟨qs,-,r1,-⟩:=h.row j u out[j] hu (Hn hjl)
   rcases q5 with q5|q5
   ·rw [q5]
    exact ⟨h.ne j i u v (Ne.symm hj) hu hv,h.ne i j v u hj hv hu⟩
   ·rw [q5]
    have hlt:∀ b,u.ownBlock=some b→b<W.heap.size:=fun b hb=>(r1.lt b hb).2
    refine ⟨?_,.inr ?_⟩
    ·cases ho:u.ownBlock with
     |none=>exact .inl rfl
     |some b=>right;intro e;injection e with e;have:=hlt b ho;simp at e;omega
    ·intro e
     have:=hlt _ e.symm
     simp at this
     omega
  intro a b x y hab hx hy
  by_cases ha:i=a
  ·subst ha
   rw [List.getElem?_set_self hvi] at hx
   injection hx with hx
   subst hx
   rw [List.getElem?_set_ne hab] at hy
   exact (hfar b y hab hy).2
  ·rw [List.getElem?_set_ne ha] at hx
   by_cases hb':i=b
   ·subst hb'
    rw [List.getElem?_set_self hvi] at hy
    injection hy with hy
    subst hy
    exact (hfar a x ha hx).1
   ·rw [List.getElem?_set_ne hb'] at hy
    exact h.ne a b x y hab hx hy
theorem yQ (n:Nat):madeCells #[.slice none 0 0] n=(List.replicate n (Value.slice none 0 0)).toArray:=by
 apply Array.toList_inj.1
 rw [toList_madeCells_one]
theorem Dp {k y n:Int} {l l':List Tk} {x:Pt} (h:nc k y l=some (x,n,l')):l'.length≤l.length:=by
 have q1:=bw l
 have q2:=bw (ae l)
 have q3:=bw (ae (ae l))
 unfold nc lK at h
 by_cases h1:bA [95] l=true
 ·rw [if_pos h1] at h
  split at h
  ·cases h
  ·cases h;exact q1
 ·rw [if_neg h1] at h
  by_cases h2:(af l).kind=2
  ·rw [if_pos h2] at h
   simp only [Hq] at h
   by_cases h3:bA [47] (ae l)=true
   ·rw [if_pos h3] at h
    by_cases h4:(af (ae (ae l))).kind=2
    ·rw [if_pos h4] at h
     simp only [Hq] at h
     split at h
     ·cases h;omega
     ·cases h
    ·rw [if_neg h4] at h;cases h
   ·rw [if_neg h3] at h
    by_cases h5:bA cH (ae l)=true
    ·rw [if_pos h5] at h
     by_cases h4:(af (ae (ae l))).kind=2
     ·rw [if_pos h4] at h
      simp only [Hq] at h
      split at h
      ·cases h;omega
      ·cases h
     ·rw [if_neg h4] at h;cases h
    ·rw [if_neg h5] at h
     split at h
     ·cases h;exact q1
     ·cases h
  ·rw [if_neg h2] at h;cases h
theorem tz {p:Lp} {t:eF}:∀ (f:Nat) (acc xs:List Pt) (len L:Int) (ts r:List Tk),gA p t f acc len ts=some (xs,L,r)→r.length≤ts.length
 |0,_,_,_,_,_,_,h=>by cases h
 |f+1,acc,xs,len,L,ts,r,h=>by
  obtain ⟨-,x,n,l1,h1,h2⟩:=nW h
  have q1:=Dp h1
  have q2:=bw l1
  by_cases hi:bA [44] l1=true
  ·rw [if_pos hi] at h2
   have:=tz f _ _ _ _ _ _ h2
   omega
  ·rw [if_neg hi] at h2
   obtain ⟨-,-,rfl⟩:=h2
   exact q1
theorem tA {ps:List Int}:∀ (f:Nat) (acc xs:List (Int×Int)) (ts r:List Tk),fS ps f acc ts=some (xs,r)→r.length≤ts.length
 |0,_,_,_,_,h=>by cases h
 |f+1,acc,xs,ts,r,h=>by
  obtain ⟨-,-,-,h2⟩:=nV h
  have q1:=bw ts
  have q2:=bw (ae ts)
  by_cases hi:bA [44] (ae ts)=true
  ·rw [if_pos hi] at h2
   have:=tA f _ _ _ _ h2
   omega
  ·rw [if_neg hi] at h2
   obtain ⟨-,rfl⟩:=h2
   exact q1
theorem Dq {ps:List Int} {xs:List (Int×Int)} {ts r:List Tk} (h:qL ps ts=some (xs,r)):r.length≤ts.length:=by
 have q1:=bw ts
 unfold qL iI at h
 by_cases h1:bA [40] ts=true
 ·rw [if_pos h1] at h
  simp only [Hq] at h
  cases hb:(if bA [41] (ae ts)=true then some ([],ae ts) else fS ps ((ae ts).length+1) [] (ae ts)) with
  |none=>rw [hb] at h;cases h
  |some y=>
   rw [hb] at h
   simp only [Hq] at h
   have q2:y.2.length≤(ae ts).length:=by
    split at hb
    ·cases hb;exact Hh _
    ·exact tA _ _ y.1 _ y.2 hb
   have q3:=bw y.2
   split at h
   ·cases h;omega
   ·cases h
 ·rw [if_neg h1] at h;cases h
theorem Dr {p:Lp} {l l':List Tk} {e:aR} (h:oM p l=some (e,l')):l'.length≤l.length:=by
 obtain ⟨t,a,l1,l2,l3,l4,l5,hE⟩:=nY h
 have q1:=tz _ _ _ _ _ _ _ hE.b3
 have q2:=Dq hE.e2
 have q3:=bw l
 have q4:=bw (ae l)
 have q5:=bw (ae (ae l))
 have q6:=bw l3
 have q7:=bw (ae l3)
 have q8:=bw l5
 have q9:l3.length≤l2.length:=by
  have r1:=bw l2
  have r2:=bw (ae l2)
  rcases nX hE.c1 with ⟨-,-,-,-,h⟩|⟨-,-,h⟩
  ·rw [h];omega
  ·rw [h];exact Hh _
 have e1:=hE.b2
 have e2:=hE.e1
 have e3:=hE.e4
 rw [e1] at q1
 rw [e2] at q2
 rw [e3]
 omega
theorem yR {p:Lp} {sw:List ByteArray} {f:Nat} {out res:List (List aR)} {ts:List Tk} (h:jx p sw (f+1) out ts=some res):
  ((af ts).kind=0∧out=res)∨((af ts).kind≠0∧rm (af ts)=true∧iH ts∈sw∧(out.getD (aU sw (iH ts)).toNat []).length<64∧∃ e l1,oM p (ae ts)=some (e,l1)∧jx p sw f (out.set (aU sw (iH ts)).toNat (out.getD (aU sw (iH ts)).toNat []++ [e])) l1=some res):=by
 unfold jx m9 at h
 by_cases h0:(af ts).kind=0
 ·rw [if_pos h0] at h
  cases h
  exact .inl ⟨h0,rfl⟩
 ·rw [if_neg h0] at h
  right
  by_cases h1:rm (af ts)=true∧iH ts∈sw
  ·rw [if_pos h1] at h
   simp only [Hq] at h
   split at h
   ·rename_i h2
    cases he:oM p (ae ts) with
    |none=>rw [he] at h;cases h
    |some y=>
     rw [he] at h
     simp only [Hq] at h
     exact ⟨h0,h1.1,h1.2,h2,y.1,y.2,rfl,h⟩
   ·cases h
  ·rw [if_neg h1] at h;cases h
theorem eH.made {W:World} {B:Nat} (n:Nat) (hB:B≤W.heap.size):eH (W.alloc (.cells (madeCells #[.slice none 0 0] n) 38)) B W.heap.size (List.replicate n (.slice none 0 0)) (List.replicate n []):=by
 refine ⟨by rw [heap_alloc_new,yQ],hB,by simp,fun i v l hv hl=> ?_,fun i j v u _ hv _=> ?_⟩
 ·rw [List.getElem?_replicate] at hv hl
  split at hv
  ·rename_i hi
   rw [if_pos hi] at hl
   injection hv with hv
   injection hl with hl
   subst hv hl
   exact rr.nil_ _ _
  ·cases hv
 ·rw [List.getElem?_replicate] at hv
  split at hv
  ·injection hv with hv
   subst hv
   exact .inl rfl
  ·cases hv
end Go.Proofs.YtiebolhmdhdagaaGreatDoor

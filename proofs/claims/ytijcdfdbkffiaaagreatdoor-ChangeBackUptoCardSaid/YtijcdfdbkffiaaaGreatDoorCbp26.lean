import Derived.Test.YtijcdfdbkffiaaaGreatDoorCbp25
set_option linter.all false
set_option maxHeartbeats 8000000
set_option maxRecDepth 100000
open Go.Proofs.Tryz
namespace Go.Proofs.YtijcdfdbkffiaaaGreatDoor
open _root_.Nat renaming lt_of_lt_of_le→Hr, le_refl→Ht, le_trans→Hw, zero_le→Hz, lt_trans→HW
open _root_.Go.RowKit.Below renaming refl→Hs
open _root_.Bool renaming false_and→Hu, true_and→Hx, and_eq_true→Hy
open _root_.Go.Calls renaming regrown_of→Hv
open _root_.List renaming getElem?_eq_getElem→HA, getElem_mem→HE, length_take→HO, take_length→H7, replicate→H8, getElem?_set_self→Ic, getElem?_set_ne→Ih
open _root_.Int renaming eq_ofNat_of_zero_le→HH, toNat_natCast→HQ
open Go.RowKit
structure Er (wr wx:World) (gx gy:Nat) (xs ys:List Value):Prop where
 bel:Below wr.heap.size wr wx
 lx:gx<wx.heap.size
 ly:gy<wx.heap.size
 cx:bO wx gx xs
 cy:bO wx gy ys
theorem Fr (wr:World) (xs ys:List Value) (t:TypeId):Er wr ((wr.alloc (.cells xs.toArray t)).alloc (.cells ys.toArray t)).drew wr.heap.size (wr.heap.size+1) xs ys:=
 ⟨((((Hs _ _).alloc (Ht _) _).alloc (by simp) _).drew),by simp<;>omega,by simp<;>omega,show bO ((wr.alloc (.cells xs.toArray t)).alloc (.cells ys.toArray t)) _ _ from bU (by simp) (be rfl),show bO ((wr.alloc (.cells xs.toArray t)).alloc (.cells ys.toArray t)) _ _ from be (by simp)⟩
theorem Fs (wr:World) (xs ys:List Value) (t:TypeId):Er wr ((wr.alloc (.cells ys.toArray t)).alloc (.cells xs.toArray t)).drew (wr.heap.size+1) wr.heap.size xs ys:=
 ⟨((((Hs _ _).alloc (Ht _) _).alloc (by simp) _).drew),by simp<;>omega,by simp<;>omega,show bO ((wr.alloc (.cells ys.toArray t)).alloc (.cells xs.toArray t)) _ _ from be (by simp),show bO ((wr.alloc (.cells ys.toArray t)).alloc (.cells xs.toArray t)) _ _ from bU (by simp) (be rfl)⟩
theorem xT (x y:Rn) (A B:Option Addr) (c d:Nat) (w:World) (ha:Sl 2 f8 w w.heap.size A x.args) (hb:Sl 2 f8 w w.heap.size B y.args):
  Calls prog 30 #[.agg #[.int .i64 x.act,.slice A x.args.length c],.agg #[.int .i64 y.act,.slice B y.args.length d]] w fun e w'=>e=.returned (.bool (decide (x.act=y.act)&&dr nE x.args y.args))∧Below w.heap.size w w':=by
 obtain ⟨xa,xs⟩:=x
 obtain ⟨ya,ys⟩:=y
 simp only at ha hb ⊢
 have hla:=ha.len
 have hlb:=hb.len
 obtain ⟨wa,hwa,hsa,hba,hca,-⟩:=af w #[.int .i64 xa,.slice A xs.length c] 47
 obtain ⟨wb,hwb,hsb,hbb,hcb,-⟩:=af wa #[.int .i64 ya,.slice B ys.length d] 47
 have x0:=((ae hbb).1 w.heap.size 0 (by omega)).trans (hca 0)
 have x1:=((ae hbb).1 w.heap.size 1 (by omega)).trans (hca 1)
 rw [hsa] at hcb
 have y0:=hcb 0
 have y1:=hcb 1
 simp at x0 x1 y0 y1
 have l1:w.heap.size<wb.heap.size:=by omega
 have l2:w.heap.size+1<wb.heap.size:=by omega
 have hw:Below w.heap.size w wb:=hba.trans (hbb.mono (by omega))
 have hA':=aa ((ha.below aq hw).more aq hw.size)
 have hB':=aa ((hb.below aq hw).more aq hw.size)
 have hfin:=aa (fun (W:World) (hW:Below wb.heap.size wb W)=>hw.trans (hW.mono hw.size))
 replace hsb:=aa hsb
 clear hca hcb hba hbb ha hb hw
 go_enter func30,ntmps30
 by_cases h0:xa=ya
 ·have r0:(xa !=ya)=false:=by rw [h0];exact bne_self_eq_false _
  have r0':(xa==ya)=true:=by rw [h0];exact beq_self_eq_true _
  have hv0:=aa (show (decide (xa=ya)&&dr nE xs ys)=dr nE xs ys from by rw [decide_eq_true h0,Hx])
  replace h0:=aa h0
  by_cases he:xs.length=ys.length
  ·have hez:((xs.length:Int) !=(ys.length:Int))=false:=by rw [he];exact bne_self_eq_false _
   have hv:=aa (show dr nE xs ys=ar (fun i=>aZ (fun x=>aZ (nE x) ys i) xs i) xs.length from by unfold dr;rw [decide_eq_true he,Hx])
   replace he:=aa he
   go_wp2
   go_loopw [5] (fun i wr=>∃ j:Nat,j≤xs.length∧i=.int .i64 j∧Hid (ar (fun i=>aZ (fun x=>aZ (nE x) ys i) xs i) j=true)∧Hid (Below wb.heap.size wb wr)) (fun i _=>xs.length-(intOf i).toNat)
   case atStart=>exact ⟨0,Hz _,rfl,aa rfl,aa (Hs _ _)⟩
   case round=>
    obtain ⟨j,hj,rfl,hc,hB⟩:=hrel
    have hzr:=hB.out.size
    have kb:=ae hB.out
    have X0:=(kb.1 _ 0 l1).trans x0
    have X1:=(kb.1 _ 1 l1).trans x1
    have Y0:=(kb.1 _ 0 l2).trans y0
    have Y1:=(kb.1 _ 1 l2).trans y1
    have l1r:=Hr l1 hzr
    have l2r:=Hr l2 hzr
    clear kb
    by_cases hlt:j<xs.length
    focus
     have hlt':j<ys.length:=by have:=he.out;omega
     have hkz:(j:Int)<(xs.length:Int):=by omega
     have hkz':(j:Int)<(ys.length:Int):=by omega
     obtain ⟨b,o,rfl,hb1,a0,a1,-⟩:=(hA'.out.below aq hB.out).num hlt
     obtain ⟨b',o',rfl,hb2,b0,b1,-⟩:=(hB'.out.below aq hB.out).num hlt'
     have hb1r:=Hr hb1 hzr
     have hb2r:=Hr hb2 hzr
     have hg:=aS (show Below wr.heap.size wr wr from Hs _ _) (Ht _)
     have hhi:=aa (fun (g:nE xs[j] ys[j]=true)=>show ar (fun i=>aZ (fun x=>aZ (nE x) ys i) xs i) (j+1)=true from by rw [ar,hc.out,Hx,am _ hlt,am _ hlt',g])
     have hlo:=aa (fun (g:nE xs[j] ys[j]=false)=>show ar (fun i=>aZ (fun x=>aZ (nE x) ys i) xs i) xs.length=false from ba hlt (by rw [am _ hlt,am _ hlt'];exact g))
     have hF:=aa (show nE xs[j] ys[j]=(decide (xs[j].1=ys[j].1)&&(decide (xs[j].2=ys[j].2))) from rfl)
     generalize nE xs[j] ys[j]=F at hhi hlo hF
     generalize xs[j].1=x0 at a0 hF
     generalize ys[j].1=z0 at b0 hF
     generalize xs[j].2=x1 at a1 hF
     generalize ys[j].2=z1 at b1 hF
     clear hA' hB' hc
     by_cases q0:x0=z0
     focus
      rw [←q0] at b0
      have ht0:=q0
      by_cases q1:x1=z1
      focus
       rw [←q1] at b1
       have ht1:=q1
       have hFt:F=true:=by rw [hF.out];simp [ht0,ht1]
       replace hhi:=aa (hhi.out hFt)
       clear hFt hlo hF q0 ht0 q1 ht1
       go_wp2_with fail
       refine cR ?_
       repeat (any_goals (first|go_big_quiet_step (fail)|quiet_step (fail)))
       refine wpQuiet_nil ?_
       intro w1 hw1
       replace hw1:=ac hw1
       go_wp2
       go_roundw
       case rel=>exact ⟨j+1,by omega,by go_num,hhi,aa (hB.out.trans (hw1.mono hzr))⟩
       case measure=>simp [intOf];omega
      rotate_right
      have r1:(x1==z1)=false:=beq_eq_false_iff_ne.2 q1
      have s1:(x1=z1)=False:=eq_false q1
      have t1:decide (x1=z1)=false:=decide_eq_false q1
      have hFf:F=false:=by rw [hF.out];simp [ht0,q1]
      replace hlo:=aa (hlo.out hFf)
      clear hFf hhi hF q1 q0 ht0
     rotate_right
     have r0:(x0==z0)=false:=beq_eq_false_iff_ne.2 q0
     have s0:(x0=z0)=False:=eq_false q0
     have t0:decide (x0=z0)=false:=decide_eq_false q0
     have hFf:F=false:=by rw [hF.out];simp [q0]
     replace hlo:=aa (hlo.out hFf)
     clear hFf hhi hF q0
    rotate_right
    focus
     have hke:j=xs.length:=by omega
     subst hke
     go_wp2
     go_ret
     exact ⟨ad (by rw [hv0.out,hv.out,hc.out]),hfin.out _ hB.out⟩
    all_goals
     go_wp2_with fail
     refine cR ?_
     repeat (any_goals (first|go_big_quiet_step (fail)|quiet_step (fail)))
     refine wpQuiet_nil ?_
     intro w1 hw1
     replace hw1:=ac hw1
     go_wp2
     go_ret
     exact ⟨ad (by rw [hv0.out,hv.out,hlo.out]),hfin.out _ (hB.out.trans (hw1.mono hzr))⟩
  ·have hez:((xs.length:Int) !=(ys.length:Int))=true:=by rw [bne_iff_ne];omega
   have hv:=aa (show dr nE xs ys=false from by unfold dr;rw [decide_eq_false he,Hu])
   go_wp2
   go_ret
   exact ⟨ad (by rw [hv0.out,hv.out]),hfin.out _ (Hs _ _)⟩
 ·have r0:(xa !=ya)=true:=bne_iff_ne.2 h0
  have r0':(xa==ya)=false:=beq_eq_false_iff_ne.2 h0
  have s0:(xa=ya)=False:=eq_false h0
  have hv0:=aa (show (decide (xa=ya)&&dr nE xs ys)=false from by rw [decide_eq_false h0,Hu])
  replace h0:=aa h0
  go_wp2
  go_ret
  exact ⟨ad hv0.out.symm,hfin.out _ (Hs _ _)⟩
theorem xU (xs ys:List aA) (A B:Option Addr) (c d:Nat) (w:World) (ha:Sl 6 eM w w.heap.size A xs) (hb:Sl 6 eM w w.heap.size B ys):
  Calls prog 20 #[.slice A xs.length c,.slice B ys.length d] w fun e w'=>e=.returned (.bool (vi xs ys))∧Below w.heap.size w w':=by
 have hla:=ha.len
 have hlb:=hb.len
 unfold vi
 have ha':=aa ha
 have hb':=aa hb
 clear ha hb
 go_enter func20,ntmps20
 by_cases he:xs.length=ys.length
 ·have hez:((xs.length:Int) !=(ys.length:Int))=false:=by rw [he];exact bne_self_eq_false _
  have hv:=aa (show dr ji xs ys=ar (fun i=>aZ (fun x=>aZ (ji x) ys i) xs i) xs.length from by unfold dr;rw [decide_eq_true he,Hx])
  replace he:=aa he
  generalize dr ji xs ys=RES at hv ⊢
  go_wp2
  go_loopw [5,6,7,8] (fun i _ _ _ wr=>∃ j:Nat,j≤xs.length∧i=.int .i64 j∧Hid (ar (fun i=>aZ (fun x=>aZ (ji x) ys i) xs i) j=true)∧Hid (Below w.heap.size w wr)) (fun i _ _ _ _=>xs.length-(intOf i).toNat)
  case atStart=>exact ⟨0,Hz _,rfl,aa rfl,aa (Hs _ _)⟩
  case round=>
   obtain ⟨j,hj,rfl,hc,hB⟩:=hrel
   have hzr:=hB.out.size
   by_cases hlt:j<xs.length
   ·have hlt':j<ys.length:=by have:=he.out;omega
    have hkz:(j:Int)<(xs.length:Int):=by omega
    have hkz':(j:Int)<(ys.length:Int):=by omega
    obtain ⟨b,o,P1,P2,c1,c2,rfl,hb1,a0,a1,a2,a3,a4,a5,s1,s2⟩:=(ha'.out.below bG hB.out).ent hlt
    obtain ⟨b',o',Q1,Q2,d1,d2,rfl,hb2,b0,b1',b2',b3,b4,b5,s3,s4⟩:=(hb'.out.below bG hB.out).ent hlt'
    have hhi:=aa (fun (g:ji xs[j] ys[j]=true)=>show ar (fun i=>aZ (fun x=>aZ (ji x) ys i) xs i) (j+1)=true from by rw [ar,hc.out,Hx,am _ hlt,am _ hlt',g])
    have hlo:=aa (fun (g:ji xs[j] ys[j]=false)=>show ar (fun i=>aZ (fun x=>aZ (ji x) ys i) xs i) xs.length=false from ba hlt (by rw [am _ hlt,am _ hlt'];exact g))
    have hE:=aa (show ji xs[j] ys[j]=(decide (xs[j].tab=ys[j].tab)&&(dr vg xs[j].pats ys[j].pats&&(decide (xs[j].len=ys[j].len)&&(decide (xs[j].prio=ys[j].prio)&&(decide (xs[j].run.act=ys[j].run.act)&&dr nE xs[j].run.args ys[j].run.args))))) from rfl)
    have hl1:=s1.len
    have hl3:=s3.len
    generalize ji xs[j] ys[j]=F at hhi hlo hE
    generalize xs[j]=x at*
    generalize ys[j]=y at*
    obtain ⟨xt,xp,xl,xr,xn⟩:=x
    obtain ⟨yt,yp,yl,yr,yn⟩:=y
    simp only at s1 s2 s3 s4 a0 a1 a2 a3 a4 a5 b0 b1' b2' b3 b4 b5 hE hl1 hl3
    have hb1r:=Hr hb1 hzr
    have hb2r:=Hr hb2 hzr
    go_upto_region 6 with fail
    go_cut [6,7] (fun vx vy wx=>∃ gx gy,vx=.pointer (some ⟨gx,0,none⟩)∧vy=.pointer (some ⟨gy,0,none⟩)∧Hid (Er wr wx gx gy [.int .i64 xt,.slice P1 xp.length c1,.int .i64 xl,.int .i64 xr,.int .i64 xn.act,.slice P2 xn.args.length c2] [.int .i64 yt,.slice Q1 yp.length d1,.int .i64 yl,.int .i64 yr,.int .i64 yn.act,.slice Q2 yn.args.length d2]))
    case first=>
     clear s1 s2 s3 s4 ha' hb' hhi hlo hE hc
     go_region
     all_goals go_wp2
     all_goals go_meet
     all_goals first|exact ⟨_,_,rfl,rfl,aa (Fr _ _ _ _)⟩|exact ⟨_,_,rfl,rfl,aa (Fs _ _ _ _)⟩
    obtain ⟨gx,gy,rfl,rfl,hXY⟩:=hcut
    obtain ⟨wn,rfl⟩:∃ wn:World,wn=wc:=⟨_,rfl⟩
    obtain ⟨hB1,l1,l2,cx,cy⟩:=hXY.out
    have x0:wn.cell? ⟨gx,0,none⟩=_:=cx 0 _ rfl
    have x1:wn.cell? ⟨gx,1,none⟩=_:=cx 1 _ rfl
    have x2:wn.cell? ⟨gx,2,none⟩=_:=cx 2 _ rfl
    have x3:wn.cell? ⟨gx,3,none⟩=_:=cx 3 _ rfl
    have x4:wn.cell? ⟨gx,4,none⟩=_:=cx 4 _ rfl
    have x5:wn.cell? ⟨gx,5,none⟩=_:=cx 5 _ rfl
    have y0:wn.cell? ⟨gy,0,none⟩=_:=cy 0 _ rfl
    have y1:wn.cell? ⟨gy,1,none⟩=_:=cy 1 _ rfl
    have y2:wn.cell? ⟨gy,2,none⟩=_:=cy 2 _ rfl
    have y3:wn.cell? ⟨gy,3,none⟩=_:=cy 3 _ rfl
    have y4:wn.cell? ⟨gy,4,none⟩=_:=cy 4 _ rfl
    have y5:wn.cell? ⟨gy,5,none⟩=_:=cy 5 _ rfl
    clear a0 a1 a2 a3 a4 a5 b0 b1' b2' b3 b4 b5 cx cy hXY
    have hbw:=aa (hB.out.trans (hB1.mono hzr))
    have hP:=aa (fun (W:World) (hW:Below wn.heap.size wn W)=>(⟨(s1.keep ay fun q hq=>((hW.cell (Hr hq (Hw hzr hB1.size))).trans (hB1.cell (Hr hq hzr)))),s3.keep ay fun q hq=>((hW.cell (Hr hq (Hw hzr hB1.size))).trans (hB1.cell (Hr hq hzr)))⟩:Sl 4 gT W w.heap.size P1 xp∧Sl 4 gT W w.heap.size Q1 yp))
    have hSR:=aa (fun (W:World) (hW:Below wn.heap.size wn W)=>xT xn yn P2 Q2 c2 d2 W ((s2.keep aq fun q hq=>((hW.cell (Hr hq (Hw hzr hB1.size))).trans (hB1.cell (Hr hq hzr)))).more aq (Hw (Hw hzr hB1.size) hW.size)) ((s4.keep aq fun q hq=>((hW.cell (Hr hq (Hw hzr hB1.size))).trans (hB1.cell (Hr hq hzr)))).more aq (Hw (Hw hzr hB1.size) hW.size)))
    clear hB1 s1 s2 s3 s4
    have hE2:=aa (show F=((decide (xt=yt)&&(decide (xl=yl)&&(decide (xr=yr)&&((decide (xn.act=yn.act)&&dr nE xn.args yn.args)&&decide (xp.length=yp.length)))))&&ar (fun i=>aZ (fun p=>aZ (vg p) yp i) xp i) xp.length) from by
     rw [hE.out,show dr vg xp yp=(decide (xp.length=yp.length)&&ar (fun i=>aZ (fun p=>aZ (vg p) yp i) xp i) xp.length) from rfl]
     generalize decide (xt=yt)=d0
     generalize decide (xl=yl)=d1
     generalize decide (xr=yr)=d2
     generalize (decide (xn.act=yn.act)&&dr nE xn.args yn.args)=d3
     generalize decide (xp.length=yp.length)=d4
     generalize ar (fun i=>aZ (fun p=>aZ (vg p) yp i) xp i) xp.length=d5
     revert d0 d1 d2 d3 d4 d5;decide)
    clear hE
    generalize (decide (xn.act=yn.act)&&dr nE xn.args yn.args)=RN at hE2 hSR
    obtain ⟨G,hG⟩:∃ G,G=(decide (xt=yt)&&(decide (xl=yl)&&(decide (xr=yr)&&(RN&&decide (xp.length=yp.length))))):=⟨_,rfl⟩
    rw [←hG] at hE2
    replace hG:=aa hG
    generalize xn.act=xna at*
    generalize yn.act=yna at*
    generalize xn.args=xnl at*
    generalize yn.args=ynl at*
    replace hSR:=aa (hSR.out wn (Hs _ _))
    have hgw:=aS (show Below wn.heap.size wn wn from Hs _ _) (Ht _)
    go_upto_region 7 with fail
    go_cut [63] (fun v wx=>v=.bool (!G)∧Hid (Below wn.heap.size wn wx))
    case first=>
     clear hhi hlo hE2 hP hbw hc hB
     by_cases q0:xt=yt
     focus
      have r0:(xt !=yt)=false:=by rw [q0];exact bne_self_eq_false _
      replace hG:=aa (hG.out.trans (by rw [decide_eq_true q0,Hx]))
      replace q0:=aa q0
      by_cases q1:xl=yl
      focus
       have r1:(xl !=yl)=false:=by rw [q1];exact bne_self_eq_false _
       replace hG:=aa (hG.out.trans (by rw [decide_eq_true q1,Hx]))
       replace q1:=aa q1
       by_cases q2:xr=yr
       focus
        have r2:(xr !=yr)=false:=by rw [q2];exact bne_self_eq_false _
        replace hG:=aa (hG.out.trans (by rw [decide_eq_true q2,Hx]))
        replace q2:=aa q2
        cases RN
        replace hG:=aa (hG.out.trans (Hu _))
        rotate_right
        focus
         replace hG:=aa (hG.out.trans (Hx _))
         by_cases q3:xp.length=yp.length
         have r3:((xp.length:Int) !=(yp.length:Int))=false:=by rw [q3];exact bne_self_eq_false _
         replace hG:=aa (hG.out.trans (decide_eq_true q3))
         replace q3:=aa q3
         rotate_right
         have r3:((xp.length:Int) !=(yp.length:Int))=true:=by rw [bne_iff_ne];omega
         replace hG:=aa (hG.out.trans (decide_eq_false q3))
         replace q3:=aa q3
       rotate_right
       focus
        have r2:(xr !=yr)=true:=bne_iff_ne.2 q2
        replace hG:=aa (hG.out.trans (by rw [decide_eq_false q2,Hu]))
        replace q2:=aa q2
        go_wp2
        go_meet
        exact ⟨by rw [hG.out];rfl,aa (Hs _ _)⟩
      rotate_right
      focus
       have r1:(xl !=yl)=true:=bne_iff_ne.2 q1
       replace hG:=aa (hG.out.trans (by rw [decide_eq_false q1,Hu]))
       replace q1:=aa q1
       go_wp2
       go_meet
       exact ⟨by rw [hG.out];rfl,aa (Hs _ _)⟩
     rotate_right
     focus
      have r0:(xt !=yt)=true:=bne_iff_ne.2 q0
      replace hG:=aa (hG.out.trans (by rw [decide_eq_false q0,Hu]))
      replace q0:=aa q0
      go_wp2
      go_meet
      exact ⟨by rw [hG.out];rfl,aa (Hs _ _)⟩
     all_goals
      go_wp2_with (go_at_call 30;refine hSR.out.mono ?_;rintro e w7 ⟨rfl,hw7⟩;have kk:=ae hw7;replace x1:=(kk.1 _ 1 l1).trans x1;replace y1:=(kk.1 _ 1 l2).trans y1;have l3:=Hr l1 hw7.size;have l4:=Hr l2 hw7.size;clear kk)
      go_meet
      exact ⟨by rw [hG.out];rfl,aa hw7⟩
    case rest=>
     clear hgw hSR x0 x2 x3 x4 x5 y0 y2 y3 y4 y5
     obtain ⟨rfl,hb7⟩:=hcut
     obtain ⟨w7,rfl⟩:∃ w7:World,w7=wc:=⟨_,rfl⟩
     cases G with
     |false=>
      replace hlo:=aa (hlo.out (by rw [hE2.out,Hu]))
      go_wp2
      go_ret
      exact ⟨ad (by rw [hv.out,hlo.out]),hbw.out.trans (hb7.out.mono hbw.out.size)⟩
     |true=>
      have hpl:xp.length=yp.length:=by
       have:=hG.out.symm
       simp only [Hy,decide_eq_true_eq] at this
       exact this.2.2.2.2
      replace hpl:=aa hpl
      replace hE2:=aa (hE2.out.trans (Hx _))
      clear hG
      simp only [Bool.not_true]
      go_wp2
      obtain ⟨wo,rfl⟩:∃ wo:World,wo=wr:=⟨_,rfl⟩
      go_loopw [8] (fun v8 wx=>∃ k:Nat,k≤xp.length∧v8=.int .i64 k∧Hid (ar (fun i=>aZ (fun p=>aZ (vg p) yp i) xp i) k=true)∧Hid (Below wn.heap.size wn wx)) (fun v8 _=>xp.length-(intOf v8).toNat)
      case atStart=>exact ⟨0,Hz _,rfl,aa rfl,hb7⟩
      case round=>
       clear hb7
       obtain ⟨k,hk,rfl,hck,hbr⟩:=hrel
       have hzk:=hbr.out.size
       have kb:=ae hbr.out
       have X1:=(kb.1 _ 1 l1).trans x1
       have Y1:=(kb.1 _ 1 l2).trans y1
       have l1r:=Hr l1 hzk
       have l2r:=Hr l2 hzk
       clear kb
       by_cases hklt:k<xp.length
       focus
        have hklt':k<yp.length:=by have:=hpl.out;omega
        have hkkz:(k:Int)<(xp.length:Int):=by omega
        have hkkz':(k:Int)<(yp.length:Int):=by omega
        obtain ⟨hp1,hp2⟩:=hP.out wr hbr.out
        obtain ⟨b,o,rfl,hb1,a0,a1,a2,a3,-⟩:=hp1.pt hklt
        obtain ⟨b',o',rfl,hb2,b0,b1,b2,b3,-⟩:=hp2.pt hklt'
        have hbwz:=hbw.out.size
        have hb1r:b<wr.heap.size:=by omega
        have hb2r:b'<wr.heap.size:=by omega
        have hg:=aS (show Below wr.heap.size wr wr from Hs _ _) (Ht _)
        have hkhi:=aa (fun (g:vg xp[k] yp[k]=true)=>show ar (fun i=>aZ (fun p=>aZ (vg p) yp i) xp i) (k+1)=true from by rw [ar,hck.out,Hx,am _ hklt,am _ hklt',g])
        have hklo:=aa (fun (g:vg xp[k] yp[k]=false)=>hlo.out (hE2.out.trans (ba hklt (by rw [am _ hklt,am _ hklt'];exact g))))
        have hF:=aa (show vg xp[k] yp[k]=(decide (xp[k].vh=yp[k].vh)&&(decide (xp[k].vl=yp[k].vl)&&(decide (xp[k].mh=yp[k].mh)&&decide (xp[k].ml=yp[k].ml)))) from rfl)
        generalize vg xp[k] yp[k]=FP at hkhi hklo hF
        generalize xp[k].vh=u0 at a0 hF
        generalize yp[k].vh=z0 at b0 hF
        generalize xp[k].vl=u1 at a1 hF
        generalize yp[k].vl=z1 at b1 hF
        generalize xp[k].mh=u2 at a2 hF
        generalize yp[k].mh=z2 at b2 hF
        generalize xp[k].ml=u3 at a3 hF
        generalize yp[k].ml=z3 at b3 hF
        clear hp1 hp2 hck hP hlo hhi hE2
        by_cases q0:u0=z0
        focus
         rw [←q0] at b0
         have ht0:=q0
         by_cases q1:u1=z1
         focus
          rw [←q1] at b1
          have ht1:=q1
          by_cases q2:u2=z2
          focus
           rw [←q2] at b2
           have ht2:=q2
           by_cases q3:u3=z3
           focus
            rw [←q3] at b3
            have ht3:=q3
            have hFt:FP=true:=by rw [hF.out];simp [ht0,ht1,ht2,ht3]
            replace hkhi:=aa (hkhi.out hFt)
            clear hFt hklo hF q0 ht0 q1 ht1 q2 ht2 q3 ht3
            go_wp2_with fail
            refine cR ?_
            repeat (any_goals (first|go_big_quiet_step (fail)|quiet_step (fail)))
            refine wpQuiet_nil ?_
            intro w1 hw1
            replace hw1:=ac hw1
            go_wp2
            go_roundw
            case rel=>exact ⟨k+1,by omega,by go_num,hkhi,aa (hbr.out.trans (hw1.mono hzk))⟩
            case measure=>simp [intOf];omega
           rotate_right
           have r3:(u3==z3)=false:=beq_eq_false_iff_ne.2 q3
           have s3:(u3=z3)=False:=eq_false q3
           have t3:decide (u3=z3)=false:=decide_eq_false q3
           have hFf:FP=false:=by rw [hF.out];simp [ht0,ht1,ht2,q3]
           replace hklo:=aa (hklo.out hFf)
           clear hFf hkhi hF q3 q0 ht0 q1 ht1 q2 ht2
          rotate_right
          have r2:(u2==z2)=false:=beq_eq_false_iff_ne.2 q2
          have s2:(u2=z2)=False:=eq_false q2
          have t2:decide (u2=z2)=false:=decide_eq_false q2
          have hFf:FP=false:=by rw [hF.out];simp [ht0,ht1,q2]
          replace hklo:=aa (hklo.out hFf)
          clear hFf hkhi hF q2 q0 ht0 q1 ht1
         rotate_right
         have r1:(u1==z1)=false:=beq_eq_false_iff_ne.2 q1
         have s1:(u1=z1)=False:=eq_false q1
         have t1:decide (u1=z1)=false:=decide_eq_false q1
         have hFf:FP=false:=by rw [hF.out];simp [ht0,q1]
         replace hklo:=aa (hklo.out hFf)
         clear hFf hkhi hF q1 q0 ht0
        rotate_right
        have r0:(u0==z0)=false:=beq_eq_false_iff_ne.2 q0
        have s0:(u0=z0)=False:=eq_false q0
        have t0:decide (u0=z0)=false:=decide_eq_false q0
        have hFf:FP=false:=by rw [hF.out];simp [q0]
        replace hklo:=aa (hklo.out hFf)
        clear hFf hkhi hF q0
       rotate_right
       focus
        have hke:k=xp.length:=by omega
        subst hke
        replace hhi:=aa (hhi.out (hE2.out.trans hck.out))
        go_wp2
        go_roundw
        case rel=>exact ⟨j+1,by omega,by go_num,hhi,aa (hbw.out.trans (hbr.out.mono hbw.out.size))⟩
        case measure=>simp [intOf];omega
       all_goals
        go_wp2_with fail
        refine cR ?_
        repeat (any_goals (first|go_big_quiet_step (fail)|quiet_step (fail)))
        refine wpQuiet_nil ?_
        intro w1 hw1
        replace hw1:=ac hw1
        go_wp2
        go_ret
        exact ⟨ad (by rw [hv.out,hklo.out]),hbw.out.trans ((hbr.out.trans (hw1.mono hzk)).mono hbwz)⟩
   ·have hke:j=xs.length:=by omega
    subst hke
    go_wp2
    go_ret
    exact ⟨ad (by rw [hv.out,hc.out]),hB.out⟩
 ·have hez:((xs.length:Int) !=(ys.length:Int))=true:=by rw [bne_iff_ne];omega
  have hv:=aa (show dr ji xs ys=false from by unfold dr;rw [decide_eq_false he,Hu])
  go_wp2
  go_ret
  exact ⟨ad hv.out.symm,Hs _ _⟩
theorem jj (xs ys:List (List aA)) (A B:Option Addr) (c d:Nat) (w:World) (ha:Sl 1 em w w.heap.size A xs) (hb:Sl 1 em w w.heap.size B ys) (hE:xs=ys):
  Calls prog 9 #[.slice A xs.length c,.slice B ys.length d] w fun e w'=>e=.returned (.bool true)∧Below w.heap.size w w':=by
 have hla:=ha.len
 subst hE
 have ha':=aa ha
 have hb':=aa hb
 clear ha hb
 go_enter func9,ntmps9
 go_wp2
 go_loopw [5] (fun i wr=>∃ j:Nat,j≤xs.length∧i=.int .i64 j∧Hid (Below w.heap.size w wr)) (fun i _=>xs.length-(intOf i).toNat)
 case atStart=>exact ⟨0,Hz _,rfl,aa (Hs _ _)⟩
 case round=>
  obtain ⟨j,hj,rfl,hB⟩:=hrel
  by_cases hlt:j<xs.length
  ·have hkz:(j:Int)<(xs.length:Int):=by omega
   obtain ⟨b,o,A1,c1,hA1,hb1,a1,s1⟩:=(ha'.out.below bX hB.out).ents hlt
   obtain ⟨b',o',B1,d1,hA2,hb2,b1,s2⟩:=(hb'.out.below bX hB.out).ents hlt
   subst hA1 hA2
   have hzr:=hB.out.size
   have hb1r:=Hr hb1 hzr
   have hb2r:=Hr hb2 hzr
   have hC:=aa (fun (W:World) (hW:Below wr.heap.size wr W)=>(xU xs[j] xs[j] A1 B1 c1 d1 W ((s1.keep bG fun q hq=>hW.cell (Hr hq hzr)).more bG (Hw hzr hW.size)) ((s2.keep bG fun q hq=>hW.cell (Hr hq hzr)).more bG (Hw hzr hW.size))).mono fun e w' h=>(⟨by rw [h.1,uh],h.2⟩:e=.returned (.bool true)∧Below W.heap.size W w'))
   have hgw:=aS (show Below wr.heap.size wr wr from Hs _ _) (Ht _)
   generalize xs[j]=x at*
   clear s1 s2 ha' hb'
   go_wp2_with fail
   refine cR ?_
   repeat (any_goals (first|go_big_quiet_step ((go_at_call 20;with_reducible exact Hv (hC.out _ (below_regrown wr _ _))))|quiet_step ((go_at_call 20;with_reducible exact Hv (hC.out _ (below_regrown wr _ _))))))
   refine wpQuiet_nil ?_
   intro w1 hw1
   replace hw1:=ac hw1
   go_wp2
   go_roundw
   case rel=>exact ⟨j+1,by omega,by go_num,aa (hB.out.trans (hw1.mono hzr))⟩
   case measure=>simp [intOf];omega
  ·have hke:j=xs.length:=by omega
   subst hke
   go_wp2
   go_ret
   exact ⟨rfl,hB.out⟩
section
attribute [local go_sem] run_panic_iface
attribute [local go_sem ↓] cH
structure Es (pl g:Nat) (w:World) (e:Exit) (a:Act) (W:World):Prop where
 d:a.defers= []
 out:∃ c,e=.panic c∧Ending.panicked c=G6 (9,pl)∧aE g w W
instance GX {pl g:Nat} {w:World} {e:Exit} {a:Act} {d:Option Tmp} {v:Value} {W:World} (h:Es pl g w e (a.put d v) W):CoeDep (Es pl g w e (a.put d v) W) h (Es pl g w e a W):=⟨⟨by have:=h.d;unfold Act.put at this;split at this<;>exact this,h.out⟩⟩
end
section
open Go.RowKit Go.Lib
theorem Et {w:World} {B g:Nat} (h:bO w g [.string ⟨#[115,49]⟩]) (hb:g<B):Sl 1 cJ w B (some ⟨g,0,none⟩) ub:=rJ h hb rfl ⟨rfl,by decide⟩
end
theorem rZ (w:World) (mm:Int) (hV:gV w) (hm:w.cell? ⟨0,0,none⟩=some (.int .i64 mm)) (h0:0<w.heap.size):
  Calls prog 6 #[] w fun e w'=>e=.returned (.bool true)∧Below w.heap.size w w':=by
 have hK:=aa (fun (W:World)=>ug W)
 have hR1:=aa (fun (w1:World) (A2 A3 A4 A5 A10 A11 A12:Option Addr) (hP:cz w1 w1.heap.size none A2 A3 A4 A5 none none none none A10 A11 A12 EL) (hb:Below w.heap.size w w1)=>
  show Calls prog 16 #[.agg #[.slice none 0 0,.slice A2 1 1,.slice A3 1 1,.slice A4 1 1,.slice A5 1 1,.slice none 0 0,.slice none 0 0,.slice none 0 0,.slice none 0 0,.slice A10 1 1,.slice A11 1 1,.slice A12 1 1],.slice (some ⟨w1.heap.size,0,none⟩) 1 1,.string uc] (w1.alloc (.cells #[.string ⟨#[115,49]⟩] 9)) fun e w'=>∃ A c A1 n1 d1 A2 n2 d2,e=.returned (.tuple #[.slice A 2 c,.agg #[.int .i64 0,.int .i64 0,.int .i64 0]])∧Sl 9 Fc w' w'.heap.size A [⟨1,0,0,0,A1,n1,d1,4,0,0,A2,n2,d2⟩,⟨2,0,3,0,none,0,0,0,0,0,none,0,0⟩]∧Below w.heap.size w w' from by
   have ha:Below w1.heap.size w1 (w1.alloc (.cells #[.string ⟨#[115,49]⟩] 9)):=(Hs _ _).alloc (Ht _) _
   have hb':=hb.trans (ha.mono hb.size)
   have h:=Ep none A2 A3 A4 A5 none none none none A10 A11 A12 EL 0 1 1 1 1 0 0 0 0 1 1 1 (some ⟨w1.heap.size,0,none⟩) 1 uc rfl mm (w1.alloc (.cells #[.string ⟨#[115,49]⟩] 9)) ((hP.below ha).more ha.size) Ej (Et (be (by simp)) (by simp)) (hV.below hb' (Ht _)) (Hr h0 hb'.size) ((hb'.cell (p:=⟨0,0,none⟩) h0).trans hm) Gb
   refine h.mono ?_
   rintro e w' ⟨A,c,E1,n1,d1,E2,n2,d2,he,hs,hbw⟩
   exact ⟨A,c,E1,n1,d1,E2,n2,d2,he,hs,hb'.trans (hbw.mono hb'.size)⟩)
 clear hV hm
 go_enter func6,ntmps6
 go_upto_region 2 with (first|(go_at_call 17;refine (hK.out _).mono ?_;rintro e w1 ⟨A2,A3,A4,A5,A10,A11,A12,rfl,hP1,hb1⟩;have hQ:=hR1.out w1 A2 A3 A4 A5 A10 A11 A12 hP1 hb1)|(go_at_call 16;refine hQ.mono ?_;rintro e w2 ⟨AE,cE,E1,n1,d1,E2,n2,d2,rfl,hsE,hb2⟩))
 obtain ⟨wb,hwb,hsb,hbb,hcb,-⟩:=af w2 #[.int .i64 0,.int .i64 0,.int .i64 0] 60
 rw [hwb]
 obtain ⟨f0,f1,f2⟩:=vv hcb
 obtain ⟨b,o,ecs,hA,hbl,hln,hc,he⟩:=hsE.2 0 _ rfl
 obtain ⟨b',o',ecs',hA',hbl',hln',hc',he'⟩:=hsE.2 1 _ rfl
 subst hA
 injection hA' with hA'
 obtain ⟨rfl,rfl,-⟩:=Addr.mk.inj hA'
 unfold Fc EN at he he'
 subst he he'
 have x0:wb.cell? ⟨b,o,none⟩=some (.int .u8 1):=(hbb.cell (p:=⟨b,o,none⟩) hbl).trans (by simpa using hc 0 _ rfl)
 have x5:wb.cell? ⟨b,o+3+2,none⟩=some (.int .i64 4):=(hbb.cell (p:=⟨b,o+3+2,none⟩) hbl).trans (by simpa using hc 5 _ rfl)
 have x9:wb.cell? ⟨b,o+9,none⟩=some (.int .u8 2):=(hbb.cell (p:=⟨b,o+9,none⟩) hbl).trans (by simpa using hc' 0 _ rfl)
 have x11:wb.cell? ⟨b,o+9+2,none⟩=some (.int .i64 3):=(hbb.cell (p:=⟨b,o+9+2,none⟩) hbl).trans (by simpa using hc' 2 _ rfl)
 have lb:b<wb.heap.size:=Hr hbl hbb.size
 have lf:w2.heap.size<wb.heap.size:=by omega
 have hfin:=aa (hb2.trans (hbb.mono hb2.size))
 replace hsb:=aa hsb
 clear hsE hcb hbb hc hc' hQ hR1 hK
 go_wp2
 go_ret
 exact ⟨rfl,hfin.out⟩
theorem oH (A1 A2 A3 A4 A5 A6 A7 A8 A9 A10 A11 A12:Option Addr) (p:Lp) (c1 c2 c3 c4 c5 c6 c7 c8 c9 c10 c11 c12:Nat) (c:bn) (B1 B2:Option Addr) (b1 b2 bw:Nat) (w:World) (h:cz w w.heap.size A1 A2 A3 A4 A5 A6 A7 A8 A9 A10 A11 A12 p) (hp:Sl 4 gT w w.heap.size B1 c.e.pats) (hq:Sl 2 f8 w w.heap.size B2 c.e.run.args) (hk1:1≤c.kind) (hk3:c.kind≤3):
  Calls prog 23 #[.agg (aO A1 A2 A3 A4 A5 A6 A7 A8 A9 A10 A11 A12 p c1 c2 c3 c4 c5 c6 c7 c8 c9 c10 c11 c12),.agg (kC c.kind bw),eV B1 b1 B2 b2 c] w fun e w'=>e=.returned (.bool (decide (c.kind=2) ||fv p [c.e]))∧Below w.heap.size w w':=by
 unfold aO
 obtain ⟨ck,cs,cp,y⟩:=c
 unfold eV
 simp only at hp hq hk1 hk3 ⊢
 obtain ⟨K0,K2,K3,hkc⟩:∃ K0 K2 K3,kC ck bw=#[K0,.bool (!decide (ck=2)),K2,K3]:=by
  rcases (show ck=1∨ck=2∨ck=3 by omega) with rfl|rfl|rfl
  ·exact ⟨_,_,_,rfl⟩
  ·exact ⟨_,_,_,rfl⟩
  ·exact ⟨_,_,_,rfl⟩
 rw [hkc]
 clear hkc
 obtain ⟨wz,hwz,hsz,hbz,hcz,-⟩:=af w (aO A1 A2 A3 A4 A5 A6 A7 A8 A9 A10 A11 A12 p c1 c2 c3 c4 c5 c6 c7 c8 c9 c10 c11 c12) 33
 obtain ⟨wk,hwk,hsk,hbk,hck,-⟩:=af wz #[K0,.bool (!decide (ck=2)),K2,K3] 70
 obtain ⟨wc,hwc,hsc,hbc,hcc,-⟩:=af wk #[.int .u8 ck,.int .i64 cs,.int .i64 cp,.int .i64 y.tab,.slice B1 y.pats.length b1,.int .i64 y.len,.int .i64 y.prio,.int .i64 y.run.act,.slice B2 y.run.args.length b2] 51
 obtain ⟨y0,y1,y2,y3,y4,y5,y6,y7,y8,y9,y10,y11⟩:=aF fun i=>(bj hbc w.heap.size i (by omega)).trans ((bj hbk w.heap.size i (by omega)).trans (hcz i))
 obtain ⟨k0,k1,k2,k3⟩:=ig fun i=>(bj hbc wz.heap.size i (by omega)).trans (hck i)
 have hsk2:wk.heap.size=w.heap.size+1+1:=by omega
 obtain ⟨x0,x1,x2,x3,x4,x5,x6,x7,x8⟩:=bW hcc
 have l1:w.heap.size<wc.heap.size:=by omega
 have l2:wz.heap.size<wc.heap.size:=by omega
 have l3:wk.heap.size<wc.heap.size:=by omega
 have hw:Below w.heap.size w wc:=hbz.trans ((hbk.trans (hbc.mono (by omega))).mono (by omega))
 have hw':=aa hw
 obtain ⟨W,hW⟩:∃ W,W=wc.alloc (.cells #[.int .i64 y.tab,.slice B1 y.pats.length b1,.int .i64 y.len,.int .i64 y.prio,.int .i64 y.run.act,.slice B2 y.run.args.length b2] 49):=⟨_,rfl⟩
 have hbW:Below wc.heap.size wc W:=by rw [hW];exact (Hs _ _).alloc (Ht _) _
 have hB:Below w.heap.size w W:=hw.trans (hbW.mono (by omega))
 have hSl:Sl 6 eM W W.heap.size (some ⟨wc.heap.size,0,none⟩) [y]:=by
  refine rJ (ecs:= [.int .i64 y.tab,.slice B1 y.pats.length b1,.int .i64 y.len,.int .i64 y.prio,.int .i64 y.run.act,.slice B2 y.run.args.length b2]) (by rw [hW];exact be rfl) (by rw [hW];simp) rfl ⟨B1,b1,B2,b2,rfl,(hp.below ay hB).more ay hB.size,(hq.below aq hB).more aq hB.size⟩
 have hI:=aa (AM A1 A2 A3 A4 A5 A6 A7 A8 A9 A10 A11 A12 p c1 c2 c3 c4 c5 c6 c7 c8 c9 c10 c11 c12 (some ⟨wc.heap.size,0,none⟩) 1 [y] W ((h.below hB).more hB.size) hSl)
 have hfin:=aa (fun (w':World) (hb:Below W.heap.size W w')=>hB.trans (hb.mono hB.size))
 rw [hW] at hI hfin
 have hscx:wc.heap.size=w.heap.size+1+1+1:=by omega
 generalize fv p [y]=EM at hI ⊢
 replace hsc:=aa hsc
 replace hsk:=aa hsk
 replace hsk2:=aa hsk2
 replace hscx:=aa hscx
 replace hsz:=aa hsz
 clear hbW hB hSl hW hck hcc hcz hbz hbk hbc hw h hp hq
 generalize y.tab=t0 at*
 generalize y.pats.length=t1 at*
 generalize y.len=t2 at*
 generalize y.prio=t3 at*
 generalize y.run.act=t4 at*
 generalize y.run.args.length=t5 at*
 by_cases h2:ck=2
 ·have d2:decide (ck=2)=true:=decide_eq_true h2
  rw [d2] at k1 hwk ⊢
  simp only [Bool.not_true,Bool.true_or] at k1 hwk ⊢
  go_enter func23,ntmps23
  replace h2:=aa h2
  go_wp2
  go_ret
  exact ⟨rfl,hw'.out⟩
 ·have d2:decide (ck=2)=false:=decide_eq_false h2
  rw [d2] at k1 hwk ⊢
  simp only [Bool.not_false,Bool.false_or] at k1 hwk ⊢
  go_enter func23,ntmps23
  replace h2:=aa h2
  go_wp2_with (go_at_call 46;refine hI.out.mono ?_;rintro e w5 ⟨rfl,hb5⟩)
  go_ret
  exact ⟨rfl,hfin.out _ hb5⟩
def FN:Array Value:=#[.string ⟨#[]⟩,.bool false,.nilFunc,.nilFunc]
theorem Dg (c:bn) (A1 A2:Option Addr) (d1 d2:Nat) (w:World) (hk:u8 c.kind) (h:¬(1≤c.kind∧c.kind≤3)):
  Calls prog 21 #[eV A1 d1 A2 d2 c] w fun e w'=>e=.returned (.tuple #[.agg FN,.bool false])∧Below w.heap.size w w':=by
 unfold eV
 obtain ⟨ck,cs,cp,ce⟩:=c
 simp only at hk h ⊢
 generalize ce.tab=t0
 generalize ce.pats.length=t1
 generalize ce.len=t2
 generalize ce.prio=t3
 generalize ce.run.act=t4
 generalize ce.run.args.length=t5
 obtain ⟨wa,hwa,hsa,hba,hca,-⟩:=af w #[.int .u8 ck,.int .i64 cs,.int .i64 cp,.int .i64 t0,.slice A1 t1 d1,.int .i64 t2,.int .i64 t3,.int .i64 t4,.slice A2 t5 d2] 51
 obtain ⟨x0,x1,x2,x3,x4,x5,x6,x7,x8⟩:=bW hca
 have l1:w.heap.size<wa.heap.size:=by omega
 have hb0:=aa hba
 clear hca hba
 by_cases q1:ck<1
 have d1:decide (ck<1)=true:=decide_eq_true q1
 rotate_right
 have d1:decide (ck<1)=false:=decide_eq_false q1
 have d2:decide (3<ck)=true:=decide_eq_true (by omega)
 all_goals
  replace q1:=aa q1
  go_enter func21,ntmps21
  go_wp2
  refine bodyPost_ret (v:=.tuple #[.agg FN,.bool false]) (by simp [results,results21,go_sem,FN,←hsa]) rfl ⟨rfl,hb0.out.trans ?_⟩
  repeat (first|(with_reducible exact Hs _ _)|(with_reducible refine Below.setCell ?_ (by first|omega|(simp;done)|(simp<;>omega)) _)|(with_reducible refine Below.alloc ?_ (by first|omega|(simp;done)|(simp<;>omega)) _))
theorem Ft (c:bn) (e:aA) (m:Nat) (A1 A2 B1 B2:Option Addr) (cL d1 d2 bw eb eo b1 b2:Nat) (w:World) (h0:0≤c.pos) (h1:c.pos.toNat<m) (heb:eb<w.heap.size) (a0:w.cell? ⟨eb,eo+c.pos.toNat*6,none⟩=some (.int .i64 e.tab)) (a1:w.cell? ⟨eb,eo+c.pos.toNat*6+1,none⟩=some (.slice B1 e.pats.length b1)) (a2:w.cell? ⟨eb,eo+c.pos.toNat*6+2,none⟩=some (.int .i64 e.len)) (a3:w.cell? ⟨eb,eo+c.pos.toNat*6+3,none⟩=some (.int .i64 e.prio)) (a4:w.cell? ⟨eb,eo+c.pos.toNat*6+4,none⟩=some (.int .i64 e.run.act)) (a5:w.cell? ⟨eb,eo+c.pos.toNat*6+5,none⟩=some (.slice B2 e.run.args.length b2)) (lb:bw<w.heap.size) (hbw:w.cell? ⟨bw,0,none⟩=some yC):
  Calls prog 76 #[.slice (some ⟨eb,eo,none⟩) m cL,eV A1 d1 A2 d2 c,.pointer (some ⟨bw,0,none⟩)] w fun r w'=>r=.returned (eV B1 b1 B2 b2 ⟨1,c.sw,c.pos,e⟩)∧Below w.heap.size w w':=by
 have hW:=aa (fun (W:World)=>ua c A1 A2 B1 B2 d1 d2 b1 b2 1 e W)
 unfold eV at hW ⊢
 obtain ⟨ck,cs,cp,ce⟩:=c
 simp only at hW h0 h1 a0 a1 a2 a3 a4 a5 ⊢
 obtain ⟨q,rfl⟩:=HH h0
 simp only [HQ] at h1 a0 a1 a2 a3 a4 a5
 have hqz:(q:Int)<(m:Int):=by omega
 generalize e.tab=u0 at*
 generalize e.pats.length=u1 at*
 generalize e.len=u2 at*
 generalize e.prio=u3 at*
 generalize e.run.act=u4 at*
 generalize e.run.args.length=u5 at*
 generalize ce.tab=t0 at hW ⊢
 generalize ce.pats.length=t1 at hW ⊢
 generalize ce.len=t2 at hW ⊢
 generalize ce.prio=t3 at hW ⊢
 generalize ce.run.act=t4 at hW ⊢
 generalize ce.run.args.length=t5 at hW ⊢
 obtain ⟨wa,hwa,hsa,hba,hca,-⟩:=af w #[.int .u8 ck,.int .i64 cs,.int .i64 (q:Int),.int .i64 t0,.slice A1 t1 d1,.int .i64 t2,.int .i64 t3,.int .i64 t4,.slice A2 t5 d2] 51
 obtain ⟨wb,hwb,hsb,hbb,hcb,hfb⟩:=af wa #[.int .u8 0,.int .i64 0,.int .i64 0,.int .i64 0,.slice none 0 0,.int .i64 0,.int .i64 0,.int .i64 0,.slice none 0 0] 51
 obtain ⟨x0,x1,x2,x3,x4,x5,x6,x7,x8⟩:=bW fun i=>(bj hbb w.heap.size i (by omega)).trans (hca i)
 have hw:Below w.heap.size w wb:=hba.trans (hbb.mono (by omega))
 have hbw2:=((ae hw).1 bw 0 lb).trans hbw
 have lb2:bw<wb.heap.size:=by omega
 rw [hsa] at hcb hfb
 have l1:w.heap.size<wb.heap.size:=by omega
 have l2:w.heap.size+1<wb.heap.size:=by omega
 have hZ:=aa (fun (W:World) (hW:Below wb.heap.size wb W)=>(⟨bW fun i=>(((ae hW).1 _ i l2)).trans (hcb i),fun i=>(((ae hW).2 _ i l2)).trans (hfb i)⟩:(_∧_∧_∧_∧_∧_∧_∧_∧_)∧∀ i,W.frozen? ⟨w.heap.size+1,i,none⟩=false))
 have hB:∀ W,Below (w.heap.size+1) wb W→Below w.heap.size w W:=fun W h=>hw.trans (h.mono (by omega))
 have eg:=gD
 replace a0:=((ae hw).1 eb _ heb).trans a0
 replace a1:=((ae hw).1 eb _ heb).trans a1
 replace a2:=((ae hw).1 eb _ heb).trans a2
 replace a3:=((ae hw).1 eb _ heb).trans a3
 replace a4:=((ae hw).1 eb _ heb).trans a4
 replace a5:=((ae hw).1 eb _ heb).trans a5
 have le2:eb<wb.heap.size:=by omega
 unfold yC at hbw2
 replace hsb:=aa hsb
 clear hca hcb hba hbb hfb hbw
 go_enter func76,ntmps76
 go_upto_region 1 with fail
 go_region_with (go_at_fn 70;refine (hW.out _).mono ?_;rintro r w5 ⟨rfl,hb5⟩;have hb6:Below wb.heap.size wb w5:=(Hs _ _).drew.trans hb5;obtain ⟨⟨z0,z1,z2,z3,z4,z5,z6,z7,z8⟩,zf⟩:=hZ.out w5 hb6;have l5:=Hr l2 hb6.size)
 all_goals go_wp2
 all_goals refine bodyPost_ret (v:=.agg #[.int .u8 1,.int .i64 cs,.int .i64 (q:Int),.int .i64 u0,.slice B1 u1 b1,.int .i64 u2,.int .i64 u3,.int .i64 u4,.slice B2 u5 b2]) (by simp [results,results76,go_sem,z0,z1,z2,z3,z4,z5,z6,z7,z8]) rfl ⟨rfl,hB _ ?_⟩
 all_goals repeat (first|(with_reducible exact hb6.mono (by omega))|(with_reducible refine Below.setCell ?_ (by simp) _))
theorem Fu (c:bn) (e:aA) (m:Nat) (A1 A2 B1 B2:Option Addr) (cL d1 d2 bw eb eo b1 b2:Nat) (w:World) (h0:0≤c.pos) (h1:c.pos.toNat<m) (heb:eb<w.heap.size) (a0:w.cell? ⟨eb,eo+c.pos.toNat*6,none⟩=some (.int .i64 e.tab)) (a1:w.cell? ⟨eb,eo+c.pos.toNat*6+1,none⟩=some (.slice B1 e.pats.length b1)) (a2:w.cell? ⟨eb,eo+c.pos.toNat*6+2,none⟩=some (.int .i64 e.len)) (a3:w.cell? ⟨eb,eo+c.pos.toNat*6+3,none⟩=some (.int .i64 e.prio)) (a4:w.cell? ⟨eb,eo+c.pos.toNat*6+4,none⟩=some (.int .i64 e.run.act)) (a5:w.cell? ⟨eb,eo+c.pos.toNat*6+5,none⟩=some (.slice B2 e.run.args.length b2)) (lb:bw<w.heap.size) (hbw:w.cell? ⟨bw,0,none⟩=some yC):
  Calls prog 78 #[.slice (some ⟨eb,eo,none⟩) m cL,eV A1 d1 A2 d2 c,.pointer (some ⟨bw,0,none⟩)] w fun r w'=>r=.returned (eV B1 b1 B2 b2 ⟨3,c.sw,c.pos,e⟩)∧Below w.heap.size w w':=by
 have hW:=aa (fun (W:World)=>ua c A1 A2 B1 B2 d1 d2 b1 b2 3 e W)
 unfold eV at hW ⊢
 obtain ⟨ck,cs,cp,ce⟩:=c
 simp only at hW h0 h1 a0 a1 a2 a3 a4 a5 ⊢
 obtain ⟨q,rfl⟩:=HH h0
 simp only [HQ] at h1 a0 a1 a2 a3 a4 a5
 have hqz:(q:Int)<(m:Int):=by omega
 generalize e.tab=u0 at*
 generalize e.pats.length=u1 at*
 generalize e.len=u2 at*
 generalize e.prio=u3 at*
 generalize e.run.act=u4 at*
 generalize e.run.args.length=u5 at*
 generalize ce.tab=t0 at hW ⊢
 generalize ce.pats.length=t1 at hW ⊢
 generalize ce.len=t2 at hW ⊢
 generalize ce.prio=t3 at hW ⊢
 generalize ce.run.act=t4 at hW ⊢
 generalize ce.run.args.length=t5 at hW ⊢
 obtain ⟨wa,hwa,hsa,hba,hca,-⟩:=af w #[.int .u8 ck,.int .i64 cs,.int .i64 (q:Int),.int .i64 t0,.slice A1 t1 d1,.int .i64 t2,.int .i64 t3,.int .i64 t4,.slice A2 t5 d2] 51
 obtain ⟨wb,hwb,hsb,hbb,hcb,hfb⟩:=af wa #[.int .u8 0,.int .i64 0,.int .i64 0,.int .i64 0,.slice none 0 0,.int .i64 0,.int .i64 0,.int .i64 0,.slice none 0 0] 51
 obtain ⟨x0,x1,x2,x3,x4,x5,x6,x7,x8⟩:=bW fun i=>(bj hbb w.heap.size i (by omega)).trans (hca i)
 have hw:Below w.heap.size w wb:=hba.trans (hbb.mono (by omega))
 have hbw2:=((ae hw).1 bw 0 lb).trans hbw
 have lb2:bw<wb.heap.size:=by omega
 rw [hsa] at hcb hfb
 have l1:w.heap.size<wb.heap.size:=by omega
 have l2:w.heap.size+1<wb.heap.size:=by omega
 have hZ:=aa (fun (W:World) (hW:Below wb.heap.size wb W)=>(⟨bW fun i=>(((ae hW).1 _ i l2)).trans (hcb i),fun i=>(((ae hW).2 _ i l2)).trans (hfb i)⟩:(_∧_∧_∧_∧_∧_∧_∧_∧_)∧∀ i,W.frozen? ⟨w.heap.size+1,i,none⟩=false))
 have hB:∀ W,Below (w.heap.size+1) wb W→Below w.heap.size w W:=fun W h=>hw.trans (h.mono (by omega))
 have eg:=gD
 replace a0:=((ae hw).1 eb _ heb).trans a0
 replace a1:=((ae hw).1 eb _ heb).trans a1
 replace a2:=((ae hw).1 eb _ heb).trans a2
 replace a3:=((ae hw).1 eb _ heb).trans a3
 replace a4:=((ae hw).1 eb _ heb).trans a4
 replace a5:=((ae hw).1 eb _ heb).trans a5
 have le2:eb<wb.heap.size:=by omega
 unfold yC at hbw2
 replace hsb:=aa hsb
 clear hca hcb hba hbb hfb hbw
 go_enter func78,ntmps78
 go_upto_region 1 with fail
 go_region_with (go_at_fn 70;refine (hW.out _).mono ?_;rintro r w5 ⟨rfl,hb5⟩;have hb6:Below wb.heap.size wb w5:=(Hs _ _).drew.trans hb5;obtain ⟨⟨z0,z1,z2,z3,z4,z5,z6,z7,z8⟩,zf⟩:=hZ.out w5 hb6;have l5:=Hr l2 hb6.size)
 all_goals go_wp2
 all_goals refine bodyPost_ret (v:=.agg #[.int .u8 3,.int .i64 cs,.int .i64 (q:Int),.int .i64 u0,.slice B1 u1 b1,.int .i64 u2,.int .i64 u3,.int .i64 u4,.slice B2 u5 b2]) (by simp [results,results78,go_sem,z0,z1,z2,z3,z4,z5,z6,z7,z8]) rfl ⟨rfl,hB _ ?_⟩
 all_goals repeat (first|(with_reducible exact hb6.mono (by omega))|(with_reducible refine Below.setCell ?_ (by simp) _))
section
def Eu (vs:List Value) (m:Nat):Prop:=∀ j,j<m→∃ g n,vs[j]? =some (.slice (some ⟨g,0,none⟩) n n)
theorem Bu {l:List (List aA)} {i:Nat} (h:i<l.length):(l.take i++H8 (l.length-i) []).set i l[i]=l.take (i+1)++H8 (l.length-(i+1)) []:=by
 obtain ⟨m,hm⟩:∃ m,l.length-i=m+1:=⟨l.length-i-1,by omega⟩
 have hk:(l.take i).length=i:=by rw [HO];omega
 rw [hm,List.replicate_succ,fZ _ _ i _ _ hk,show l.length-(i+1)=m by omega]
 rw [show l.take (i+1)=l.take i++ [l[i]] from by rw [List.take_add_one,HA h];rfl,List.append_assoc]
 rfl
theorem bC.made {W:World} (n B:Nat) (hB:B≤W.heap.size):bC (W.alloc (.cells (madeCells #[.slice none 0 0] n) 38)) W.heap.size B W.heap.size (H8 n (.slice none 0 0)) (H8 n []):=by
 refine ⟨by rw [oD];exact heap_alloc_new W _,Ht _,hB,by simp,fun i v l hv hl=> ?_,fun i j v u _ hv hu=> ?_,fun i v hv=> ?_⟩
 ·rw [List.getElem?_replicate] at hv hl
  split at hv
  ·rename_i hi
   rw [if_pos hi] at hl
   cases hv;cases hl
   exact pE.nil_ _ _ _
  ·cases hv
 ·rw [List.getElem?_replicate] at hv
  split at hv
  ·cases hv;exact .inl rfl
  ·cases hv
 ·rw [List.getElem?_replicate] at hv
  split at hv
  ·cases hv;simp [Value.ownBlock]
  ·cases hv
attribute [local go_sem ↓] vb vd
theorem vj (AL:Option Addr) (cL B:Nat) (l:List (List aA)) (w:World) (hBw:B≤w.heap.size) (hl:dB w w.heap.size B AL l) (hz:l.length≤100) (hr:∀ x∈l,x.length≤1000):
  Calls prog 18 #[.slice AL l.length cL] w fun e w'=>∃ vs,e=.returned (.slice (some ⟨w.heap.size,0,none⟩) l.length l.length)∧bC w' w.heap.size B w.heap.size vs l∧Eu vs l.length∧Below w.heap.size w w':=by
 have hmk:=oE w l.length (by omega)
 have hO:=bC.made (W:=w) l.length B hBw
 have hB1:Below w.heap.size w (w.alloc (.cells (madeCells #[.slice none 0 0] l.length) 38)):=(Hs _ _).alloc (Ht _) _
 generalize hW1:w.alloc (.cells (madeCells #[.slice none 0 0] l.length) 38)=w1 at hmk hO hB1
 replace hW1:=aa hW1
 have hO':=aa hO
 have hB1':=aa hB1
 have hl':=aa hl
 clear hO hB1 hl
 generalize hb:w.heap.size=b at*
 go_enter func18,ntmps18
 go_wp2
 go_loopw [4,5,11] (fun _ _ v11 wr=>∃ (i:Nat) (vs:List Value),v11=.int .i64 (i:Int)∧i≤l.length∧Hid (bC wr b B b vs (l.take i++H8 (l.length-i) []))∧Hid (Eu vs i)∧Hid (∀ j,i≤j→j<l.length→vs[j]? =some (.slice none 0 0))∧Hid (Below b w wr)) (fun _ _ v11 _=>l.length-(RowKit.intOf v11).toNat)
 case atStart=>
  refine ⟨0,H8 l.length (.slice none 0 0),rfl,Hz _,aa (by simpa using hO'.out),aa (fun j h=>absurd h (Nat.not_lt_zero _)),aa (fun j _ hj=>by rw [List.getElem?_replicate,if_pos hj]),hB1'⟩
 case round=>
  obtain ⟨i,vs,rfl,hi,hO,hC,hn,hB⟩:=hrel
  by_cases hil:i<l.length
  ·have hiz:(i:Int)<(l.length:Int):=by omega
   have dk:decide ((i:Int)<(l.length:Int))=true:=decide_eq_true hiz
   have hlr:dB wr b B AL l:=hl'.out.below hB.out (Ht _) hBw
   obtain ⟨eb,eo,EA,ec,hA,heb,hec,hEl⟩:=hlr i hil
   have hlen:(l.take i++H8 (l.length-i) ([]:List aA)).length=l.length:=by simp;omega
   have hv:=hn.out i (Ht _) hil
   have hci:=aH hO.out.bx i
   have hfi:=cm hO.out.bx i
   have hog:=hO.out.lt
   have hbr:eb<wr.heap.size:=HW heb hog
   obtain ⟨W',hrun,hO2,hB2⟩:=AX (c:=ec) hO.out (by rw [hlen];exact hil) hv hEl (hr _ (HE hil))
   rw [Bu hil] at hO2
   rw [World.setCell_alloc_past _ _ _ _ hog] at hrun
   have hmk2:=xG wr l[i].length (by have:=hr _ (HE hil);omega)
   have hv2:wr.cell? ⟨b,i,none⟩=some (.slice none 0 0):=by rw [hci];simpa using hv
   have hO3:=aa hO2
   have hvl:vs.length=l.length:=by rw [hO.out.len];exact hlen
   have hC3:Hid (Eu (vs.set i (.slice (some ⟨wr.heap.size,0,none⟩) l[i].length l[i].length)) (i+1)):=aa (fun j hj=>by
    by_cases e:i=j
    ·subst e
     exact ⟨_,_,by rw [Ic (by omega)]⟩
    ·rw [Ih e]
     exact hC.out j (by omega))
   have hn3:Hid (∀ j,i+1≤j→j<l.length→(vs.set i (.slice (some ⟨wr.heap.size,0,none⟩) l[i].length l[i].length))[j]? =some (.slice none 0 0)):=aa (fun j h1 h2=>by
    rw [Ih (by omega)]
    exact hn.out j (by omega) h2)
   have hB3:=aa (hB.out.trans hB2)
   subst hA
   clear hO2 hB2 hO hC hn hlr hEl hci hv hvl hlen
   generalize l[i].length=m at*
   go_wp2
   go_roundw
   ·exact ⟨i+1,_,by go_num,hil,hO3,hC3,hn3,hB3⟩
   ·simp [RowKit.intOf];omega
  ·obtain rfl:i=l.length:=by omega
   have dk:decide ((l.length:Int)<(l.length:Int))=false:=decide_eq_false (by omega)
   have hO2:=hO.out
   rw [Nat.sub_self,List.replicate_zero,List.append_nil,H7] at hO2
   replace hO2:=aa hO2
   go_wp2
   go_ret
   exact ⟨vs,rfl,hO2.out,hC.out,hB.out⟩
end
abbrev ui:Value:=.agg #[.int .u8 0,.int .i64 0,.int .i64 0,.int .i64 0,.slice none 0 0,.int .i64 0,.int .i64 0,.int .i64 0,.slice none 0 0]
theorem uj (A1 A2 A3 A4 A5 A6 A7 A8 A9 A10 A11 A12:Option Addr) (p:Lp) (c1 c2 c3 c4 c5 c6 c7 c8 c9 c10 c11 c12:Nat) (c:bn) (AL B1 B2:Option Addr) (cL d1 d2 n:Nat) (w:World) (hk:u8 c.kind) (h:¬(1≤c.kind∧c.kind≤3)):
  Calls prog 11 #[.agg (aO A1 A2 A3 A4 A5 A6 A7 A8 A9 A10 A11 A12 p c1 c2 c3 c4 c5 c6 c7 c8 c9 c10 c11 c12),.slice AL n cL,eV B1 d1 B2 d2 c] w fun e w'=>e=.returned (.tuple #[.slice none 0 0,ui,.int .i64 2])∧Below w.heap.size w w':=by
 unfold aO
 have hN:=aa (fun (W:World)=>Dg c B1 B2 d1 d2 W hk h)
 unfold eV at hN ⊢
 unfold FN at hN
 obtain ⟨ck,cs,cp,ce⟩:=c
 simp only at hN ⊢
 clear hk h
 generalize ce.tab=t0 at*
 generalize ce.pats.length=t1 at*
 generalize ce.len=t2 at*
 generalize ce.prio=t3 at*
 generalize ce.run.act=t4 at*
 generalize ce.run.args.length=t5 at*
 obtain ⟨wp,hwp,hsp,hbp,hcp,-⟩:=af w (aO A1 A2 A3 A4 A5 A6 A7 A8 A9 A10 A11 A12 p c1 c2 c3 c4 c5 c6 c7 c8 c9 c10 c11 c12) 33
 obtain ⟨wc,hwc,hsc,hbc,hcc,-⟩:=af wp #[.int .u8 ck,.int .i64 cs,.int .i64 cp,.int .i64 t0,.slice B1 t1 d1,.int .i64 t2,.int .i64 t3,.int .i64 t4,.slice B2 t5 d2] 51
 obtain ⟨wo,hwo,hso,hbo,hco,hfo⟩:=af wc #[.int .u8 0,.int .i64 0,.int .i64 0,.int .i64 0,.slice none 0 0,.int .i64 0,.int .i64 0,.int .i64 0,.slice none 0 0] 51
 obtain ⟨y0,y1,y2,y3,y4,y5,y6,y7,y8,y9,y10,y11⟩:=aF fun i=>(bj hbo w.heap.size i (by omega)).trans ((bj hbc w.heap.size i (by omega)).trans (hcp i))
 obtain ⟨x0,x1,x2,x3,x4,x5,x6,x7,x8⟩:=bW fun i=>(bj hbo wp.heap.size i (by omega)).trans (hcc i)
 have hsc2:wc.heap.size=w.heap.size+1+1:=by omega
 obtain ⟨z0,z1,z2,z3,z4,z5,z6,z7,z8⟩:=bW hco
 have hz:=hco
 rw [hsc2] at hz
 have l1:w.heap.size<wo.heap.size:=by omega
 have l2:wp.heap.size<wo.heap.size:=by omega
 have l3:wc.heap.size<wo.heap.size:=by omega
 have hw:Below w.heap.size w wo:=hbp.trans ((hbc.trans (hbo.mono (by omega))).mono (by omega))
 rw [hsp] at x0 x1 x2 x3 x4 x5 x6 x7 x8 l2
 rw [hsc2] at z0 z1 z2 z3 z4 z5 z6 z7 z8 hfo l3
 have hso2:=aa hso
 have hZ:=aa (fun (W:World) (hW:Below wo.heap.size wo W)=>(⟨bW fun i=>(((ae hW).1 _ i l3)).trans (hz i),fun i=>(((ae hW).2 _ i l3)).trans (hfo i)⟩:(_∧_∧_∧_∧_∧_∧_∧_∧_)∧∀ i,W.frozen? ⟨w.heap.size+1+1,i,none⟩=false))
 clear hz hcp hcc hco hbp hbc hbo hso hsc
 go_enter func11,ntmps11
 go_upto_region 2 with (go_at_call 21;refine (hN.out _).mono ?_;rintro r w5 ⟨rfl,hb5⟩;have m1:=Hr l1 hb5.size;have m2:=Hr l2 hb5.size;have m3:=Hr l3 hb5.size;obtain ⟨⟨r0,r1,r2,r3,r4,r5,r6,r7,r8⟩,rf⟩:=hZ.out w5 hb5)
 go_wp2
 refine bodyPost_ret (v:=.tuple #[.slice none 0 0,ui,.int .i64 2]) (by simp [results,results11,go_sem,ui,m1,m2,m3,rf,r0,r1,r2,r3,r4,r5,r6,r7,r8]) rfl ⟨rfl,?_⟩
 have hb6:Below w.heap.size w w5:=hw.trans (hb5.mono (by have:=hw.size;omega))
 have hwz:=hw.size
 have h5z:=hb5.size
 repeat (first|(with_reducible exact hb6)|(with_reducible refine Below.setCell ?_ (by simp<;>omega) _)|(with_reducible refine Below.alloc ?_ (by simp<;>omega) _))
end Go.Proofs.YtijcdfdbkffiaaaGreatDoor

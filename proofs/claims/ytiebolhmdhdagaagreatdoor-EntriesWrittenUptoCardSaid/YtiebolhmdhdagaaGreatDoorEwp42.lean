import Derived.Test.YtiebolhmdhdagaaGreatDoorEwp09
set_option linter.all false
set_option maxHeartbeats 8000000
set_option maxRecDepth 100000
open Go.Proofs.Tryz
namespace Go.Proofs.YtiebolhmdhdagaaGreatDoor
open _root_.Nat renaming lt_of_lt_of_le→He, le_trans→Hj, zero_le→Hm
open _root_.Go.RowKit.Below renaming refl→Hf
open _root_.Bool renaming false_and→Hg, true_and→Hk
open Go.RowKit
theorem DF (xs ys:List Pt) (A B:Option Addr) (c d:Nat) (w:World) (ha:Sl 4 mR w w.heap.size A xs) (hb:Sl 4 mR w w.heap.size B ys):
  Calls prog 26 #[.slice A xs.length c,.slice B ys.length d] w fun e w'=>e=.returned (.bool (ci kC xs ys))∧Below w.heap.size w w':=by
 have hla:=ha.len
 have hlb:=hb.len
 go_enter func26,ntmps26
 by_cases he:xs.length=ys.length
 ·have hez:((xs.length:Int) !=(ys.length:Int))=false:=by rw [he];exact bne_self_eq_false _
  have hv:=aa (show ci kC xs ys=am (fun i=>aK (fun x=>aK (kC x) ys i) xs i) xs.length from by unfold ci;rw [decide_eq_true he,Hk])
  replace he:=aa he
  go_wp2
  go_loopw [5,13] (fun _ i wr=>∃ j:Nat,j≤xs.length∧i=.int .i64 j∧Hid (am (fun i=>aK (fun x=>aK (kC x) ys i) xs i) j=true)∧Hid (Below w.heap.size w wr)) (fun _ i _=>xs.length-(intOf i).toNat)
  case atStart=>exact ⟨0,Hm _,rfl,aa rfl,aa (Hf _ _)⟩
  case round=>
   obtain ⟨j,hj,rfl,hc,hB⟩:=hrel
   have hzr:=hB.out.size
   by_cases hlt:j<xs.length
   focus
    have hlt':j<ys.length:=by have:=he.out;omega
    have hkz:(j:Int)<(xs.length:Int):=by omega
    have hkz':(j:Int)<(ys.length:Int):=by omega
    have hg:=aE hB.out hzr
    obtain ⟨b,o,rfl,hb1,a0,a1,a2,a3,-⟩:=ha.pt hlt
    obtain ⟨b',o',rfl,hb2,b0,b1,b2,b3,-⟩:=hb.pt hlt'
    have hhi:=aa (fun (g:kC xs[j] ys[j]=true)=>show am (fun i=>aK (fun x=>aK (kC x) ys i) xs i) (j+1)=true from by rw [am,hc.out,Hk,ag _ hlt,ag _ hlt',g])
    have hlo:=aa (fun (g:kC xs[j] ys[j]=false)=>show am (fun i=>aK (fun x=>aK (kC x) ys i) xs i) xs.length=false from aN hlt (by rw [ag _ hlt,ag _ hlt'];exact g))
    have hF:=aa (show kC xs[j] ys[j]=(decide (xs[j].vh=ys[j].vh)&&(decide (xs[j].vl=ys[j].vl)&&(decide (xs[j].mh=ys[j].mh)&&(decide (xs[j].ml=ys[j].ml))))) from rfl)
    generalize kC xs[j] ys[j]=F at hhi hlo hF
    generalize xs[j].vh=x0 at a0 hF
    generalize ys[j].vh=z0 at b0 hF
    generalize xs[j].vl=x1 at a1 hF
    generalize ys[j].vl=z1 at b1 hF
    generalize xs[j].mh=x2 at a2 hF
    generalize ys[j].mh=z2 at b2 hF
    generalize xs[j].ml=x3 at a3 hF
    generalize ys[j].ml=z3 at b3 hF
    clear ha hb hc
    by_cases q0:x0=z0
    focus
     rw [←q0] at b0
     have ht0:=q0
     by_cases q1:x1=z1
     focus
      rw [←q1] at b1
      have ht1:=q1
      by_cases q2:x2=z2
      focus
       rw [←q2] at b2
       have ht2:=q2
       by_cases q3:x3=z3
       focus
        rw [←q3] at b3
        have ht3:=q3
        have hFt:F=true:=by rw [hF.out];simp [ht0,ht1,ht2,ht3]
        replace hhi:=aa (hhi.out hFt)
        clear hFt hlo hF q0 ht0 q1 ht1 q2 ht2 q3 ht3
        go_wp2_with fail
        refine bV ?_
        repeat (any_goals (first|go_big_quiet_step (fail)|quiet_step (fail)))
        refine wpQuiet_nil ?_
        intro w1 hw1
        replace hw1:=ac hw1
        go_wp2
        go_roundw
        case rel=>exact ⟨j+1,by omega,by go_num,hhi,aa (hB.out.trans (hw1.mono hzr))⟩
        case measure=>simp [intOf];omega
       rotate_right
       have r3:(x3==z3)=false:=beq_eq_false_iff_ne.2 q3
       have s3:(x3=z3)=False:=eq_false q3
       have t3:decide (x3=z3)=false:=decide_eq_false q3
       have hFf:F=false:=by rw [hF.out];simp [ht0,ht1,ht2,q3]
       replace hlo:=aa (hlo.out hFf)
       clear hFf hhi hF q3 q0 ht0 q1 ht1 q2 ht2
      rotate_right
      have r2:(x2==z2)=false:=beq_eq_false_iff_ne.2 q2
      have s2:(x2=z2)=False:=eq_false q2
      have t2:decide (x2=z2)=false:=decide_eq_false q2
      have hFf:F=false:=by rw [hF.out];simp [ht0,ht1,q2]
      replace hlo:=aa (hlo.out hFf)
      clear hFf hhi hF q2 q0 ht0 q1 ht1
     rotate_right
     have r1:(x1==z1)=false:=beq_eq_false_iff_ne.2 q1
     have s1:(x1=z1)=False:=eq_false q1
     have t1:decide (x1=z1)=false:=decide_eq_false q1
     have hFf:F=false:=by rw [hF.out];simp [ht0,q1]
     replace hlo:=aa (hlo.out hFf)
     clear hFf hhi hF q1 q0 ht0
    rotate_right
    have r0:(x0==z0)=false:=beq_eq_false_iff_ne.2 q0
    have s0:(x0=z0)=False:=eq_false q0
    have t0:decide (x0=z0)=false:=decide_eq_false q0
    have hFf:F=false:=by rw [hF.out];simp [q0]
    replace hlo:=aa (hlo.out hFf)
    clear hFf hhi hF q0
   rotate_right
   focus
    have hke:j=xs.length:=by omega
    subst hke
    go_wp2
    go_ret
    exact ⟨ad (by rw [hv.out,hc.out]),hB.out⟩
   all_goals
    go_wp2_with fail
    refine bV ?_
    repeat (any_goals (first|go_big_quiet_step (fail)|quiet_step (fail)))
    refine wpQuiet_nil ?_
    intro w1 hw1
    replace hw1:=ac hw1
    go_wp2
    go_ret
    exact ⟨ad (by rw [hv.out,hlo.out]),hB.out.trans (hw1.mono hzr)⟩
 ·have hez:((xs.length:Int) !=(ys.length:Int))=true:=by rw [bne_iff_ne];omega
  have hv:=aa (show ci kC xs ys=false from by unfold ci;rw [decide_eq_false he,Hg])
  clear ha hb
  go_wp2
  go_ret
  exact ⟨ad hv.out.symm,Hf _ _⟩
theorem DG (xs ys:List (Int×Int)) (A B:Option Addr) (c d:Nat) (w:World) (ha:Sl 2 ke w w.heap.size A xs) (hb:Sl 2 ke w w.heap.size B ys):
  Calls prog 27 #[.slice A xs.length c,.slice B ys.length d] w fun e w'=>e=.returned (.bool (ci iw xs ys))∧Below w.heap.size w w':=by
 have hla:=ha.len
 have hlb:=hb.len
 go_enter func27,ntmps27
 by_cases he:xs.length=ys.length
 ·have hez:((xs.length:Int) !=(ys.length:Int))=false:=by rw [he];exact bne_self_eq_false _
  have hv:=aa (show ci iw xs ys=am (fun i=>aK (fun x=>aK (iw x) ys i) xs i) xs.length from by unfold ci;rw [decide_eq_true he,Hk])
  replace he:=aa he
  go_wp2
  go_loopw [5,13] (fun _ i wr=>∃ j:Nat,j≤xs.length∧i=.int .i64 j∧Hid (am (fun i=>aK (fun x=>aK (iw x) ys i) xs i) j=true)∧Hid (Below w.heap.size w wr)) (fun _ i _=>xs.length-(intOf i).toNat)
  case atStart=>exact ⟨0,Hm _,rfl,aa rfl,aa (Hf _ _)⟩
  case round=>
   obtain ⟨j,hj,rfl,hc,hB⟩:=hrel
   have hzr:=hB.out.size
   by_cases hlt:j<xs.length
   focus
    have hlt':j<ys.length:=by have:=he.out;omega
    have hkz:(j:Int)<(xs.length:Int):=by omega
    have hkz':(j:Int)<(ys.length:Int):=by omega
    have hg:=aE hB.out hzr
    obtain ⟨b,o,rfl,hb1,a0,a1,-⟩:=ha.num hlt
    obtain ⟨b',o',rfl,hb2,b0,b1,-⟩:=hb.num hlt'
    have hhi:=aa (fun (g:iw xs[j] ys[j]=true)=>show am (fun i=>aK (fun x=>aK (iw x) ys i) xs i) (j+1)=true from by rw [am,hc.out,Hk,ag _ hlt,ag _ hlt',g])
    have hlo:=aa (fun (g:iw xs[j] ys[j]=false)=>show am (fun i=>aK (fun x=>aK (iw x) ys i) xs i) xs.length=false from aN hlt (by rw [ag _ hlt,ag _ hlt'];exact g))
    have hF:=aa (show iw xs[j] ys[j]=(decide (xs[j].1=ys[j].1)&&(decide (xs[j].2=ys[j].2))) from rfl)
    generalize iw xs[j] ys[j]=F at hhi hlo hF
    generalize xs[j].1=x0 at a0 hF
    generalize ys[j].1=z0 at b0 hF
    generalize xs[j].2=x1 at a1 hF
    generalize ys[j].2=z1 at b1 hF
    clear ha hb hc
    by_cases q0:x0=z0
    focus
     rw [←q0] at b0
     have ht0:=q0
     by_cases q1:x1=z1
     focus
      rw [←q1] at b1
      have ht1:=q1
      have hFt:F=true:=by rw [hF.out];simp [ht0,ht1]
      replace hhi:=aa (hhi.out hFt)
      clear hFt hlo hF q0 ht0 q1 ht1
      go_wp2_with fail
      refine bV ?_
      repeat (any_goals (first|go_big_quiet_step (fail)|quiet_step (fail)))
      refine wpQuiet_nil ?_
      intro w1 hw1
      replace hw1:=ac hw1
      go_wp2
      go_roundw
      case rel=>exact ⟨j+1,by omega,by go_num,hhi,aa (hB.out.trans (hw1.mono hzr))⟩
      case measure=>simp [intOf];omega
     rotate_right
     have r1:(x1==z1)=false:=beq_eq_false_iff_ne.2 q1
     have s1:(x1=z1)=False:=eq_false q1
     have t1:decide (x1=z1)=false:=decide_eq_false q1
     have hFf:F=false:=by rw [hF.out];simp [ht0,q1]
     replace hlo:=aa (hlo.out hFf)
     clear hFf hhi hF q1 q0 ht0
    rotate_right
    have r0:(x0==z0)=false:=beq_eq_false_iff_ne.2 q0
    have s0:(x0=z0)=False:=eq_false q0
    have t0:decide (x0=z0)=false:=decide_eq_false q0
    have hFf:F=false:=by rw [hF.out];simp [q0]
    replace hlo:=aa (hlo.out hFf)
    clear hFf hhi hF q0
   rotate_right
   focus
    have hke:j=xs.length:=by omega
    subst hke
    go_wp2
    go_ret
    exact ⟨ad (by rw [hv.out,hc.out]),hB.out⟩
   all_goals
    go_wp2_with fail
    refine bV ?_
    repeat (any_goals (first|go_big_quiet_step (fail)|quiet_step (fail)))
    refine wpQuiet_nil ?_
    intro w1 hw1
    replace hw1:=ac hw1
    go_wp2
    go_ret
    exact ⟨ad (by rw [hv.out,hlo.out]),hB.out.trans (hw1.mono hzr)⟩
 ·have hez:((xs.length:Int) !=(ys.length:Int))=true:=by rw [bne_iff_ne];omega
  have hv:=aa (show ci iw xs ys=false from by unfold ci;rw [decide_eq_false he,Hg])
  clear ha hb
  go_wp2
  go_ret
  exact ⟨ad hv.out.symm,Hf _ _⟩
theorem B6 (x y:aR) (P1 P2 Q1 Q2:Option Addr) (c1 c2 d1 d2:Nat) (w:World) (h1:Sl 4 mR w w.heap.size P1 x.pats) (h2:Sl 2 ke w w.heap.size P2 x.run.args) (h3:Sl 4 mR w w.heap.size Q1 y.pats) (h4:Sl 2 ke w w.heap.size Q2 y.run.args):
  Calls prog 25 #[sf P1 c1 P2 c2 x,sf Q1 d1 Q2 d2 y] w fun e w'=>e=.returned (.bool (dY x y))∧Below w.heap.size w w':=by
 have hv:=aa (show dY x y=(decide (x.tab=y.tab)&&(ci kC x.pats y.pats&&(decide (x.len=y.len)&&(decide (x.prio=y.prio)&&(decide (x.run.act=y.run.act)&&ci iw x.run.args y.run.args))))) from rfl)
 obtain ⟨wa,hwa,hsa,hba,hca,-⟩:=ak w #[.int .i64 x.tab,.slice P1 x.pats.length c1,.int .i64 x.len,.int .i64 x.prio,.int .i64 x.run.act,.slice P2 x.run.args.length c2] 57
 obtain ⟨wb,hwb,hsb,hbb,hcb,-⟩:=ak wa #[.int .i64 y.tab,.slice Q1 y.pats.length d1,.int .i64 y.len,.int .i64 y.prio,.int .i64 y.run.act,.slice Q2 y.run.args.length d2] 57
 obtain ⟨x0,x1,x2,x3,x4,x5⟩:=iK fun i=>(bH hbb w.heap.size i (by omega)).trans (hca i)
 rw [hsa] at hcb
 obtain ⟨y0,y1,y2,y3,y4,y5⟩:=iK hcb
 have l1:w.heap.size<wb.heap.size:=by omega
 have l2:w.heap.size+1<wb.heap.size:=by omega
 have hw:Below w.heap.size w wb:=hba.trans (hbb.mono (by omega))
 have hPs:=aa (fun (W:World) (hW:Below wb.heap.size wb W)=>DF x.pats y.pats P1 Q1 c1 d1 W (((h1.below aL hw).below aL (hW.mono hw.size)).more aL (Hj hw.size hW.size)) (((h3.below aL hw).below aL (hW.mono hw.size)).more aL (Hj hw.size hW.size)))
 have hNs:=aa (fun (W:World) (hW:Below wb.heap.size wb W)=>DG x.run.args y.run.args P2 Q2 c2 d2 W (((h2.below aw hw).below aw (hW.mono hw.size)).more aw (Hj hw.size hW.size)) (((h4.below aw hw).below aw (hW.mono hw.size)).more aw (Hj hw.size hW.size)))
 have hfin:=aa (fun (W:World) (hW:Below wb.heap.size wb W)=>hw.trans (hW.mono hw.size))
 replace hsb:=aa hsb
 clear hca hcb hba hbb h1 h2 h3 h4 hw
 generalize dY x y=RES at hv ⊢
 generalize ci kC x.pats y.pats=EP at hv hPs
 generalize ci iw x.run.args y.run.args=EN at hv hNs
 obtain ⟨xt,xp,xl,xr,xa,xg⟩:=x
 obtain ⟨yt,yp,yl,yr,ya,yg⟩:=y
 simp only at hv hPs hNs x0 x1 x2 x3 x4 x5 y0 y1 y2 y3 y4 y5 ⊢
 go_enter func25,ntmps25
 by_cases q0:xt=yt
 focus
  have r0:(xt==yt)=true:=beq_iff_eq.2 q0
  replace hv:=aa (hv.out.trans (by rw [decide_eq_true q0,Hk]))
  replace q0:=aa q0
  cases EP
  replace hv:=aa (hv.out.trans (Hg _))
  rotate_right
  focus
   replace hv:=aa (hv.out.trans (Hk _))
   by_cases q1:xl=yl
   focus
    have r1:(xl==yl)=true:=beq_iff_eq.2 q1
    replace hv:=aa (hv.out.trans (by rw [decide_eq_true q1,Hk]))
    replace q1:=aa q1
    by_cases q2:xr=yr
    focus
     have r2:(xr==yr)=true:=beq_iff_eq.2 q2
     replace hv:=aa (hv.out.trans (by rw [decide_eq_true q2,Hk]))
     replace q2:=aa q2
     by_cases q3:xa=ya
     focus
      have r3:(xa==ya)=true:=beq_iff_eq.2 q3
      replace hv:=aa (hv.out.trans (by rw [decide_eq_true q3,Hk]))
      replace q3:=aa q3
      go_wp2_with (first|(go_at_call 26;refine (hPs.out _ (Hf _ _)).mono ?_;rintro e w1 ⟨rfl,hb1⟩;have kk:=ah hb1;replace x2:=(kk.1 _ 2 l1).trans x2;replace x3:=(kk.1 _ 3 l1).trans x3;replace x4:=(kk.1 _ 4 l1).trans x4;replace x5:=(kk.1 _ 5 l1).trans x5;replace y2:=(kk.1 _ 2 l2).trans y2;replace y3:=(kk.1 _ 3 l2).trans y3;replace y4:=(kk.1 _ 4 l2).trans y4;replace y5:=(kk.1 _ 5 l2).trans y5;have l3:=He l1 hb1.size;have l4:=He l2 hb1.size;clear kk)|(go_at_call 27;refine (hNs.out _ hb1).mono ?_;rintro e w2 ⟨rfl,hb2⟩))
      go_ret
      exact ⟨ad hv.out.symm,hfin.out _ (hb1.trans (hb2.mono hb1.size))⟩
     rotate_right
     have r3:(xa==ya)=false:=beq_eq_false_iff_ne.2 q3
     have s3:(xa=ya)=False:=eq_false q3
     replace hv:=aa (hv.out.trans (by rw [decide_eq_false q3,Hg]))
     replace q3:=aa q3
    rotate_right
    have r2:(xr==yr)=false:=beq_eq_false_iff_ne.2 q2
    have s2:(xr=yr)=False:=eq_false q2
    replace hv:=aa (hv.out.trans (by rw [decide_eq_false q2,Hg]))
    replace q2:=aa q2
   rotate_right
   have r1:(xl==yl)=false:=beq_eq_false_iff_ne.2 q1
   have s1:(xl=yl)=False:=eq_false q1
   replace hv:=aa (hv.out.trans (by rw [decide_eq_false q1,Hg]))
   replace q1:=aa q1
 rotate_right
 focus
  have r0:(xt==yt)=false:=beq_eq_false_iff_ne.2 q0
  have s0:(xt=yt)=False:=eq_false q0
  replace hv:=aa (hv.out.trans (by rw [decide_eq_false q0,Hg]))
  replace q0:=aa q0
  go_wp2
  go_ret
  exact ⟨ad hv.out.symm,hfin.out _ (Hf _ _)⟩
 all_goals
  go_wp2_with (go_at_call 26;refine (hPs.out _ (Hf _ _)).mono ?_;rintro e w1 ⟨rfl,hb1⟩;have kk:=ah hb1;replace x2:=(kk.1 _ 2 l1).trans x2;replace x3:=(kk.1 _ 3 l1).trans x3;replace x4:=(kk.1 _ 4 l1).trans x4;replace x5:=(kk.1 _ 5 l1).trans x5;replace y2:=(kk.1 _ 2 l2).trans y2;replace y3:=(kk.1 _ 3 l2).trans y3;replace y4:=(kk.1 _ 4 l2).trans y4;replace y5:=(kk.1 _ 5 l2).trans y5;have l3:=He l1 hb1.size;have l4:=He l2 hb1.size;clear kk)
  go_ret
  exact ⟨ad hv.out.symm,hfin.out _ hb1⟩
theorem tM:∀ args w,(callFunc 25 args).run prog w=.ok (.enter 25 args) w:=enters_of func25 (by kernel_rfl) rfl
theorem B7 (fid:Nat) (hfid:fid=25) (eg:∀ args w,(callFunc fid args).run prog w=.ok (.enter fid args) w) (xs ys:List aR) (A B:Option Addr) (c d:Nat) (w:World) (ha:Sl 6 fT w w.heap.size A xs) (hb:Sl 6 fT w w.heap.size B ys):
  Calls prog 24 #[.slice A xs.length c,.slice B ys.length d,.func (.func fid) #[] #[]] w fun e w'=>e=.returned (.bool (ci dY xs ys))∧Below w.heap.size w w':=by
 have hla:=ha.len
 have hlb:=hb.len
 have hcl:=aa (fun x y P1 P2 Q1 Q2 c1 c2 d1 d2 W h1 h2 h3 h4=>hfid ▸ B6 x y P1 P2 Q1 Q2 c1 c2 d1 d2 W h1 h2 h3 h4)
 clear hfid
 go_enter func24,ntmps24
 by_cases he:xs.length=ys.length
 ·have hez:((xs.length:Int) !=(ys.length:Int))=false:=by rw [he];exact bne_self_eq_false _
  have hv:=aa (show ci dY xs ys=am (fun i=>aK (fun x=>aK (dY x) ys i) xs i) xs.length from by unfold ci;rw [decide_eq_true he,Hk])
  replace he:=aa he
  go_wp2
  go_loopw [7,8,9,17] (fun _ _ _ i wr=>∃ j:Nat,j≤xs.length∧i=.int .i64 j∧Hid (am (fun i=>aK (fun x=>aK (dY x) ys i) xs i) j=true)∧Hid (Below w.heap.size w wr)) (fun _ _ _ i _=>xs.length-(intOf i).toNat)
  case atStart=>exact ⟨0,Hm _,rfl,aa rfl,aa (Hf _ _)⟩
  case round=>
   obtain ⟨j,hj,rfl,hc,hB⟩:=hrel
   have hzr:=hB.out.size
   by_cases hlt:j<xs.length
   ·have hlt':j<ys.length:=by have:=he.out;omega
    have hkz:(j:Int)<(xs.length:Int):=by omega
    have hkz':(j:Int)<(ys.length:Int):=by omega
    obtain ⟨b,o,P1,P2,c1,c2,rfl,hb1,a0,a1,a2,a3,a4,a5,s1,s2⟩:=ha.ent hlt
    obtain ⟨b',o',Q1,Q2,d1,d2,rfl,hb2,b0,b1',b2',b3,b4,b5,s3,s4⟩:=hb.ent hlt'
    have hhi:=aa (fun (g:dY xs[j] ys[j]=true)=>show am (fun i=>aK (fun x=>aK (dY x) ys i) xs i) (j+1)=true from by rw [am,hc.out,Hk,ag _ hlt,ag _ hlt',g])
    have hlo:=aa (fun (g:dY xs[j] ys[j]=false)=>show am (fun i=>aK (fun x=>aK (dY x) ys i) xs i) xs.length=false from aN hlt (by rw [ag _ hlt,ag _ hlt'];exact g))
    generalize xs[j]=x at*
    generalize ys[j]=y at*
    have kk:=ah hB.out
    obtain ⟨wa,hwa,hsa,hba,hca,-⟩:=ak wr #[.int .i64 x.tab,.slice P1 x.pats.length c1,.int .i64 x.len,.int .i64 x.prio,.int .i64 x.run.act,.slice P2 x.run.args.length c2] 57
    obtain ⟨wn,hwn,hsn,hbn,hcn,-⟩:=ak wa #[.int .i64 y.tab,.slice Q1 y.pats.length d1,.int .i64 y.len,.int .i64 y.prio,.int .i64 y.run.act,.slice Q2 y.run.args.length d2] 57
    obtain ⟨x0,x1,x2,x3,x4,x5⟩:=iK fun i=>(bH hbn wr.heap.size i (by omega)).trans (hca i)
    rw [hsa] at hcn
    obtain ⟨y0,y1,y2,y3,y4,y5⟩:=iK hcn
    have l1:wr.heap.size<wn.heap.size:=by omega
    have l2:wr.heap.size+1<wn.heap.size:=by omega
    have hbw:=aa (hB.out.trans ((hba.trans (hbn.mono hba.size)).mono hzr))
    have hcall:=aa (hcl.out x y P1 P2 Q1 Q2 c1 c2 d1 d2 wn ((s1.keep aL fun q hq=>hbw.out.cell hq).more aL hbw.out.size) ((s2.keep aw fun q hq=>hbw.out.cell hq).more aw hbw.out.size) ((s3.keep aL fun q hq=>hbw.out.cell hq).more aL hbw.out.size) ((s4.keep aw fun q hq=>hbw.out.cell hq).more aw hbw.out.size))
    have ka:=ah (hB.out.trans (hba.mono hzr))
    replace a0:=(kk.1 _ _ hb1).trans a0
    replace a1:=(kk.1 _ _ hb1).trans a1
    replace a2:=(kk.1 _ _ hb1).trans a2
    replace a3:=(kk.1 _ _ hb1).trans a3
    replace a4:=(kk.1 _ _ hb1).trans a4
    replace a5:=(kk.1 _ _ hb1).trans a5
    replace b0:=(ka.1 _ _ hb2).trans b0
    replace b1':=(ka.1 _ _ hb2).trans b1'
    replace b2':=(ka.1 _ _ hb2).trans b2'
    replace b3:=(ka.1 _ _ hb2).trans b3
    replace b4:=(ka.1 _ _ hb2).trans b4
    replace b5:=(ka.1 _ _ hb2).trans b5
    replace hsn:=aa hsn
    clear ha hb s1 s2 s3 s4 hcl kk ka hca hcn hba hbn hc
    generalize dY x y=F at hhi hlo hcall
    cases F with
    |true=>
     go_wp2_with (go_at_fn fid;refine hcall.out.mono ?_;rintro e w' ⟨rfl,hb3⟩)
     go_roundw
     case rel=>exact ⟨j+1,by omega,by go_num,aa (hhi.out (by trivial)),aa (hbw.out.trans (hb3.mono (by have:=hbw.out.size;omega)))⟩
     case measure=>simp [intOf];omega
    |false=>
     replace hlo:=aa (hlo.out (by trivial))
     go_wp2_with (go_at_fn fid;refine hcall.out.mono ?_;rintro e w' ⟨rfl,hb3⟩)
     go_ret
     exact ⟨ad (by rw [hv.out,hlo.out]),hbw.out.trans (hb3.mono (by have:=hbw.out.size;omega))⟩
   ·have hke:j=xs.length:=by omega
    subst hke
    go_wp2
    go_ret
    exact ⟨ad (by rw [hv.out,hc.out]),hB.out⟩
 ·have hez:((xs.length:Int) !=(ys.length:Int))=true:=by rw [bne_iff_ne];omega
  have hv:=aa (show ci dY xs ys=false from by unfold ci;rw [decide_eq_false he,Hg])
  clear ha hb
  go_wp2
  go_ret
  exact ⟨ad hv.out.symm,Hf _ _⟩
theorem qg (xs ys:List aR) (A B:Option Addr) (c d:Nat) (w:World) (ha:Sl 6 fT w w.heap.size A xs) (hb:Sl 6 fT w w.heap.size B ys):
  Calls prog 9 #[.slice A xs.length c,.slice B ys.length d] w fun e w'=>e=.returned (.bool (pC xs ys))∧Below w.heap.size w w':=by
 have h:=aa (B7 _ rfl tM xs ys A B c d w ha hb)
 clear ha hb
 go_enter func9,ntmps9
 go_wp2_with (go_at_call 24;refine h.out.mono ?_;rintro e w1 ⟨rfl,hb1⟩)
 go_ret
 exact ⟨rfl,hb1⟩
end Go.Proofs.YtiebolhmdhdagaaGreatDoor

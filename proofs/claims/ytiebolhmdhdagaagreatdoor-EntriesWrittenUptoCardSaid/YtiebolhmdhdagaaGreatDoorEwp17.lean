import Derived.Test.YtiebolhmdhdagaaGreatDoorEwp09
set_option linter.all false
set_option maxHeartbeats 4000000
set_option maxRecDepth 100000
open Go.Proofs.Tryz
namespace Go.Proofs.YtiebolhmdhdagaaGreatDoor
open _root_.Nat renaming lt_of_lt_of_le→He, le_refl→Hh
open _root_.Go.RowKit.Below renaming refl→Hf
open _root_.Bool renaming false_and→Hg, true_and→Hk
open _root_.List renaming getElem?_eq_getElem→Hn, getElem?_toArray→HH, getElem?_cons_zero→HK, getElem?_cons_succ→HM
open Go.RowKit
def FT (v:Value):Prop:=∃ A1 n1 c1 A2 n2 c2 A3 n3 c3 i A4 n4 c4,v=.agg #[.slice A1 n1 c1,.slice A2 n2 c2,.slice A3 n3 c3,.int .i64 i,.slice A4 n4 c4]
theorem Bp (A:Option Addr) (cap:Nat) (xs:List eF) (i:Int) (w:World) (h:Sl 5 qz w w.heap.size A xs):
  Calls prog 156 #[.slice A xs.length cap,.int .i64 i] w fun e w'=>∃ v,(FT v∧e=.returned (.tuple #[v,.bool (dJ xs.length i)]))∧Below w.heap.size w w':=by
 have hl:=h.len
 go_enter func156,ntmps156
 by_cases h0:i<0
 ·have e2:=aa (cj (n:=xs.length) (i:=i) (by omega))
  go_wp2
  refine bodyPost_ret (v:=.tuple #[.agg #[.slice none 0 0,.slice none 0 0,.slice none 0 0,.int .i64 0,.slice none 0 0],.bool false]) (by simp [results,results156,go_sem]) rfl ?_
  exact ⟨_,⟨⟨none,0,0,none,0,0,none,0,0,0,none,0,0,rfl⟩,by rw [e2.out]⟩,(Hf _ _).alloc (Hh _) _⟩
 ·by_cases h1:(xs.length:Int)≤i
  ·have e2:=aa (cj (n:=xs.length) (i:=i) (by omega))
   go_wp2
   refine bodyPost_ret (v:=.tuple #[.agg #[.slice none 0 0,.slice none 0 0,.slice none 0 0,.int .i64 0,.slice none 0 0],.bool false]) (by simp [results,results156,go_sem]) rfl ?_
   exact ⟨⟨_,⟨none,0,0,none,0,0,none,0,0,0,none,0,0,rfl⟩,by rw [e2.out]⟩,(Hf _ _).alloc (Hh _) _⟩
  ·obtain ⟨k,rfl,hk⟩:=gk h0 h1
   have e2:=aa (eY hk)
   obtain ⟨b,o,ecs,rfl,hb,hn,hcell,A1,A2,A3,A4,c1,c2,c3,c4,rfl,-⟩:=h.2 k _ (Hn hk)
   have x0:w.cell? ⟨b,o+k*5,none⟩=some (.slice A1 xs[k].keys.length c1):=hcell 0 _ rfl
   have x1:w.cell? ⟨b,o+k*5+1,none⟩=some (.slice A2 xs[k].kinds.length c2):=hcell 1 _ rfl
   have x2:w.cell? ⟨b,o+k*5+2,none⟩=some (.slice A3 xs[k].acts.length c3):=hcell 2 _ rfl
   have x3:w.cell? ⟨b,o+k*5+3,none⟩=some (.int .i64 xs[k].run.act):=hcell 3 _ rfl
   have x4:w.cell? ⟨b,o+k*5+4,none⟩=some (.slice A4 xs[k].run.args.length c4):=hcell 4 _ rfl
   have hki:(k:Int)<(xs.length:Int):=by omega
   clear h hcell hn
   go_wp2
   refine bodyPost_ret (v:=.tuple #[.agg #[.slice A1 xs[k].keys.length c1,.slice A2 xs[k].kinds.length c2,.slice A3 xs[k].acts.length c3,.int .i64 xs[k].run.act,.slice A4 xs[k].run.args.length c4],.bool true]) (by simp [results,results156,go_sem]) rfl ?_
   exact ⟨⟨_,⟨A1,_,c1,A2,_,c2,A3,_,c3,_,A4,_,c4,rfl⟩,by rw [e2.out]⟩,(Hf _ _).alloc (Hh _) _⟩
theorem uM (A1 A2 A3 A4 A5 A6 A7 A8 A9 A10 A11 A12:Option Addr) (p:Lp) (c1 c2 c3 c4 c5 c6 c7 c8 c9 c10 c11 c12:Nat) (x:oF) (A':Option Addr) (c':Nat) (w:World) (h:cJ w w.heap.size A1 A2 A3 A4 A5 A6 A7 A8 A9 A10 A11 A12 p):
  Calls prog 100 #[.agg #[.slice A1 p.heads.length c1,.slice A2 p.metas.length c2,.slice A3 p.steps.length c3,.slice A4 p.acts.length c4,.slice A5 p.tabs.length c5,.slice A6 p.control.length c6,.slice A7 p.emit.length c7,.slice A8 p.nh.length c8,.slice A9 p.nf.length c9,.slice A10 p.nm.length c10,.slice A11 p.na.length c11,.slice A12 p.nt.length c12],.agg #[.int .u8 x.kind,.int .i64 x.a,.int .i64 x.b,.slice A' x.e.length c',.int .i64 x.to]] w fun e w'=>e=.returned (.tuple #[.int .i64 (gg p x).1,.bool (gg p x).2])∧Below w.heap.size w w':=by
 obtain ⟨kd,a,b,ec,tt⟩:=x
 simp only
 obtain ⟨wz,hwz,hsz,hbz,hcz,-⟩:=ak w #[.slice A1 p.heads.length c1,.slice A2 p.metas.length c2,.slice A3 p.steps.length c3,.slice A4 p.acts.length c4,.slice A5 p.tabs.length c5,.slice A6 p.control.length c6,.slice A7 p.emit.length c7,.slice A8 p.nh.length c8,.slice A9 p.nf.length c9,.slice A10 p.nm.length c10,.slice A11 p.na.length c11,.slice A12 p.nt.length c12] 33
 obtain ⟨wa,hwa,hsa,hba,hca,-⟩:=ak wz #[.int .u8 kd,.int .i64 a,.int .i64 b,.slice A' ec.length c',.int .i64 tt] 147
 have Y:=fun i=>(bH hba w.heap.size i (by omega)).trans (hcz i)
 have y0:=Y 0
 have y1:=Y 1
 have y4:=Y 4
 simp only [HH,HK,HM] at y0 y1 y4
 rw [hsz] at hca
 have x0:wa.cell? ⟨w.heap.size+1,0,none⟩=some (.int .u8 kd):=hca 0
 have x1:wa.cell? ⟨w.heap.size+1,1,none⟩=some (.int .i64 a):=hca 1
 have x2:wa.cell? ⟨w.heap.size+1,2,none⟩=some (.int .i64 b):=hca 2
 have hl1:w.heap.size<wa.heap.size:=by omega
 have hl2:w.heap.size+1<wa.heap.size:=by omega
 have hw:Below w.heap.size w wa:=hbz.trans (hba.mono (by omega))
 have hS:=(h.below hw).more hw.size
 have hA1:=aa hS.heads
 have hA2:=aa hS.metas
 have hA5:=aa hS.tabs
 have hwd:=aa (fun m=>hw.trans (au ((Hf wa.heap.size wa).mono hw.size) m))
 replace hw:=aa hw
 replace hsa:=aa hsa
 clear hca hcz hba hbz h hS Y
 go_enter func100,ntmps100
 by_cases k1:kd=1
 focus
  subst k1
  have hv:=aa (show gg p ⟨1,a,b,ec,tt⟩=(rn ((eG p.heads a).getD []) b,dJ ((eG p.heads a).getD []).length b) from rfl)
  go_wp2_with (first|(go_at_call 154;refine (lX _ _ _ _ _ hA1.out).mono ?_;rintro e w' ⟨A',c',rfl,hs,rfl⟩)|(go_at_call 155;refine (jr _ _ _ _ _ hs).mono ?_;rintro e w' ⟨rfl,rfl⟩))
  exact bodyPost_ret (results_tmp2 rfl _ _ _) rfl ⟨by rw [hv.out]<;>rfl,hw.out⟩
 rotate_right
 focus
  by_cases k2:kd=2
  focus
   subst k2
   have hv:=aa (show gg p ⟨2,a,b,ec,tt⟩=(rn p.metas a,dJ p.metas.length a&&decide (b=0)) from rfl)
   have hC:=jr A2 c2 p.metas a wa hA2.out
   cases hz:dJ p.metas.length a
   rw [hz] at hC hv
   replace hC:=aa hC
   rotate_right
   focus
    rw [hz] at hC hv
    replace hC:=aa hC
    by_cases hb:b=0
    focus subst hb
    rotate_right
    have hbz:(b==0)=false:=beq_eq_false_iff_ne.2 hb
    rw [decide_eq_false hb] at hv
   all_goals
    go_wp2_with (go_at_call 155;refine hC.out.mono ?_;rintro e w' ⟨rfl,rfl⟩)
    go_quiet (fail)
    go_wp2
    exact bodyPost_ret (results_tmp2 rfl _ _ _) rfl ⟨by rw [hv.out]<;>rfl,hwd.out _⟩
  rotate_right
  focus
   by_cases k3:kd=3
   focus
    subst k3
    have hv:=aa (show gg p ⟨3,a,b,ec,tt⟩=(0,dJ p.tabs.length a&&decide (b=0)) from rfl)
    have hC:=Bp A5 c5 p.tabs a wa hA5.out
    cases hz:dJ p.tabs.length a
    rw [hz] at hC hv
    replace hC:=aa hC
    rotate_right
    focus
     rw [hz] at hC hv
     replace hC:=aa hC
     by_cases hb:b=0
     focus subst hb
     rotate_right
     have hbz:(b==0)=false:=beq_eq_false_iff_ne.2 hb
     rw [decide_eq_false hb] at hv
   rotate_right
   focus
    by_cases k6:kd=6
    focus
     subst k6
     have hv:=aa (show gg p ⟨6,a,b,ec,tt⟩=(0,dJ p.heads.length a&&(decide (b=0) ||decide (b=1))) from rfl)
     have hC:=lX A1 c1 p.heads a wa hA1.out
     cases hz:dJ p.heads.length a
     rw [hz] at hC hv
     replace hC:=aa hC
     rotate_right
     focus
      rw [hz] at hC hv
      replace hC:=aa hC
      by_cases hb:b=0
      focus subst hb
      rotate_right
      focus
       have hbz:(b==0)=false:=beq_eq_false_iff_ne.2 hb
       rw [decide_eq_false hb] at hv
       by_cases hb1:b=1
       focus subst hb1
       rotate_right
       have hbz1:(b==1)=false:=beq_eq_false_iff_ne.2 hb1
       rw [decide_eq_false hb1] at hv
    rotate_right
    focus
     by_cases k7:kd=7∨kd=5
     focus
      have hv:=aa (show gg p ⟨kd,a,b,ec,tt⟩=(if kd=7 then 1 else 9,decide (a=0)&&decide (b=0)) from by rcases k7 with rfl|rfl<;>rfl)
      by_cases ha:a=0
      focus
       rw [decide_eq_true ha,Hk] at hv
       subst ha
       by_cases hb:b=0
       focus
        rw [decide_eq_true hb] at hv
        subst hb
       rotate_right
       have hbz:(b==0)=false:=beq_eq_false_iff_ne.2 hb
       rw [decide_eq_false hb] at hv
      rotate_right
      have haz:(a==0)=false:=beq_eq_false_iff_ne.2 ha
      rw [decide_eq_false ha,Hg] at hv
     rotate_right
     focus
      have hv:=aa (show gg p ⟨kd,a,b,ec,tt⟩=(0,(decide (kd=4) ||decide (kd=8))&&decide (a=0)&&decide (b=0)) from by
       unfold gg;simp only [if_neg k1,if_neg k2,if_neg k3,if_neg k6,if_neg (fun g=>k7 (.inl g)),if_neg (fun g=>k7 (.inr g))])
      simp only [not_or] at k7
      obtain ⟨k7,k5⟩:=k7
      have z1:=beq_eq_false_iff_ne.2 k1
      have z2:=beq_eq_false_iff_ne.2 k2
      have z3:=beq_eq_false_iff_ne.2 k3
      have z6:=beq_eq_false_iff_ne.2 k6
      have z7:=beq_eq_false_iff_ne.2 k7
      have z5:=beq_eq_false_iff_ne.2 k5
      by_cases k4:kd=4∨kd=8
      focus
       have hv2:=aa (show (decide (kd=4) ||decide (kd=8))=true from by rcases k4 with rfl|rfl<;>rfl)
       rw [hv2.out,Hk] at hv
       by_cases ha:a=0
       focus
        rw [decide_eq_true ha,Hk] at hv
        subst ha
        by_cases hb:b=0
        focus
         rw [decide_eq_true hb] at hv
         subst hb
        rotate_right
        have hbz:(b==0)=false:=beq_eq_false_iff_ne.2 hb
        rw [decide_eq_false hb] at hv
       rotate_right
       have haz:(a==0)=false:=beq_eq_false_iff_ne.2 ha
       rw [decide_eq_false ha,Hg] at hv
      rotate_right
      focus
       simp only [not_or] at k4
       obtain ⟨k4,k8⟩:=k4
       rw [decide_eq_false k4,decide_eq_false k8] at hv
       have z4:=beq_eq_false_iff_ne.2 k4
       have z8:=beq_eq_false_iff_ne.2 k8
       go_wp2_with fail
       go_quiet (fail)
       go_wp2
       exact bodyPost_ret (results_tmp2 rfl _ _ _) rfl ⟨by rw [hv.out]<;>rfl,hwd.out _⟩
      all_goals
       rcases k4 with rfl|rfl
       all_goals
        go_wp2_with fail
        go_quiet (fail)
        go_wp2
        exact bodyPost_ret (results_tmp2 rfl _ _ _) rfl ⟨by rw [hv.out]<;>rfl,hwd.out _⟩
     all_goals
      rcases k7 with rfl|rfl
      all_goals
       go_wp2_with fail
       go_quiet (fail)
       go_wp2
       exact bodyPost_ret (results_tmp2 rfl _ _ _) rfl ⟨by rw [hv.out]<;>rfl,hwd.out _⟩
    all_goals
     go_wp2_with (go_at_call 154;refine hC.out.mono ?_;rintro e w' ⟨A',c',rfl,hs,rfl⟩)
     go_quiet (fail)
     go_wp2
     exact bodyPost_ret (results_tmp2 rfl _ _ _) rfl ⟨by rw [hv.out]<;>rfl,hwd.out _⟩
 all_goals
  go_wp2_with (go_at_call 156;refine hC.out.mono ?_;rintro e w3 ⟨v,⟨⟨B1,m1,d1,B2,m2,d2,B3,m3,d3,i3,B4,m4,d4,rfl⟩,rfl⟩,hb3⟩;have kb3:=iF hb3;have hq:=He hl2 hb3.size;have hE:=aa (fun o m=>hw.out.trans (au ((hb3.alloc hb3.size o).mono hw.out.size) m)))
  go_quiet (fail)
  go_wp2
  exact bodyPost_ret (results_tmp2 rfl _ _ _) rfl ⟨by rw [hv.out]<;>rfl,hE.out _ _⟩
end Go.Proofs.YtiebolhmdhdagaaGreatDoor

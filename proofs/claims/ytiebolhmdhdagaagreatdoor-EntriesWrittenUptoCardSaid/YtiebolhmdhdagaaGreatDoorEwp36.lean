import Derived.Test.YtiebolhmdhdagaaGreatDoorEwp21
import Derived.Test.YtiebolhmdhdagaaGreatDoorEwp22
set_option linter.all false
set_option maxHeartbeats 8000000
set_option maxRecDepth 100000
open Go.Proofs.Tryz
namespace Go.Proofs.YtiebolhmdhdagaaGreatDoor
open _root_.Nat renaming lt_of_lt_of_le→He, le_refl→Hh, le_trans→Hj, zero_le→Hm, add_zero→HU
open _root_.Go.RowKit.Below renaming refl→Hf
open _root_.Bool renaming false_and→Hg, true_and→Hk, and_eq_true→Hl, eq_iff_iff→Hr, false_eq_true→Hy
open _root_.Go.Calls renaming regrown_of→Hi
open _root_.Go.Sort renaming grow→Ht
open _root_.List renaming length_take→HF, take_length→HZ
open _root_.Option renaming getD_some→H9
open Go.RowKit
def f6 (p:Lp) (act:Int) (x:oF):Bool:=(gg p x).2&& !(decide (0≤act)&&decide (x.kind=3))
theorem rf (A1 A2 A3 A4 A5 A6 A7 A8 A9 A10 A11 A12:Option Addr) (p:Lp) (c1 c2 c3 c4 c5 c6 c7 c8 c9 c10 c11 c12:Nat) (act:Int) (x:oF) (A':Option Addr) (c' i many:Nat) (w:World) (h:cJ w w.heap.size A1 A2 A3 A4 A5 A6 A7 A8 A9 A10 A11 A12 p) (hE:Sl 6 Ab w w.heap.size A' x.e) (hi:i<many) (hm:many≤65536):
  Calls prog 123 #[.agg #[.slice A1 p.heads.length c1,.slice A2 p.metas.length c2,.slice A3 p.steps.length c3,.slice A4 p.acts.length c4,.slice A5 p.tabs.length c5,.slice A6 p.control.length c6,.slice A7 p.emit.length c7,.slice A8 p.nh.length c8,.slice A9 p.nf.length c9,.slice A10 p.nm.length c10,.slice A11 p.na.length c11,.slice A12 p.nt.length c12],.int .i64 act,.agg #[.int .u8 x.kind,.int .i64 x.a,.int .i64 x.b,.slice A' x.e.length c',.int .i64 x.to],.int .i64 i,.int .i64 many] w fun e w'=>e=.returned (.bool (eL (ow p act) p act many i x))∧Below w.heap.size w w':=by
 obtain ⟨kd,a,b,ec,tt⟩:=x
 simp only at hE ⊢
 have lec:=hE.len
 have l1:=h.heads.len
 have l2:=h.metas.len
 have l5:=h.tabs.len
 obtain ⟨wz,hwz,hsz,hbz,hcz,-⟩:=ak w #[.slice A1 p.heads.length c1,.slice A2 p.metas.length c2,.slice A3 p.steps.length c3,.slice A4 p.acts.length c4,.slice A5 p.tabs.length c5,.slice A6 p.control.length c6,.slice A7 p.emit.length c7,.slice A8 p.nh.length c8,.slice A9 p.nf.length c9,.slice A10 p.nm.length c10,.slice A11 p.na.length c11,.slice A12 p.nt.length c12] 33
 obtain ⟨wa,hwa,hsa,hba,hca,-⟩:=ak wz #[.int .u8 kd,.int .i64 a,.int .i64 b,.slice A' ec.length c',.int .i64 tt] 147
 have k0:w.heap.size<wz.heap.size:=by omega
 obtain ⟨y0,y1,y2,y3,y4,y5,y6,y7,y8,y9,y10,y11⟩:=aC fun i=>(hba.cell (p:=⟨w.heap.size,i,none⟩) k0).trans (hcz i)
 rw [hsz] at hca
 obtain ⟨x0,x1,x2,x3,x4⟩:=rB hca
 have hl1:w.heap.size<wa.heap.size:=by omega
 have hl2:w.heap.size+1<wa.heap.size:=by omega
 have hw:Below w.heap.size w wa:=hbz.trans (hba.mono (by omega))
 have hS:=aa ((h.below hw).more (B':=wa.heap.size) hw.size)
 have hEn:=aa ((hE.below bq hw).more (B':=wa.heap.size) bq hw.size)
 have hwd:=aa (fun m=>hw.trans (au ((Hf wa.heap.size wa).mono hw.size) m))
 have hv:=aa (show eL (ow p act) p act many i ⟨kd,a,b,ec,tt⟩=(f6 p act ⟨kd,a,b,ec,tt⟩&&qx ⟨kd,a,b,ec,tt⟩ i many&&ow p act (gg p ⟨kd,a,b,ec,tt⟩).1 ec) from rfl)
 replace hw:=aa hw
 replace hsa:=aa hsa
 clear hca hcz hba hbz h hE
 go_enter func123,ntmps123
 go_upto_region 2 with (fail)
 generalize hB0:dJ p.heads.length a=hd0
 go_cut [12] (fun u wx=>u=.bool hd0∧wx=wa)
 case first=>
  go_wp2
  all_goals go_meet
  all_goals refine ⟨congrArg Value.bool ?_,rfl⟩
  all_goals rw [←hB0]
  all_goals clear hv hwd hEn hS hw hsa hB0
  all_goals (unfold dJ;rw [Hr];simp only [Hl,decide_eq_true_eq,Hy,eq_self_iff_true,true_iff,false_iff];try omega)
 case rest=>
  obtain ⟨rfl,hcx⟩:=hcut
  replace hcx:=hcx.symm
  subst hcx
  go_upto_block 0 with (fail)
  go_cut [11] (fun u wx=>f6 p act ⟨kd,a,b,ec,tt⟩=true∧u=.int .i64 (gg p ⟨kd,a,b,ec,tt⟩).1∧Hid (Below wa.heap.size wa wx))
  case first=>
   have hbad:=aa (fun (g:f6 p act ⟨kd,a,b,ec,tt⟩=false)=>show eL (ow p act) p act many i ⟨kd,a,b,ec,tt⟩=false from by rw [hv.out,g,Hg,Hg])
   by_cases k1:kd=1
   focus
    subst k1
    have hask:f6 p act ⟨1,a,b,ec,tt⟩=dJ ((eG p.heads a).getD []).length b:=by unfold f6 gg;simp
    rcases dt p.heads a with ⟨k,rfl,hk,hn⟩|⟨hn,hb0,-⟩
    focus
     rw [eY hk] at hB0
     subst hB0
     rw [hn] at hask
     simp only [H9] at hask
     obtain ⟨g,o,A1',c1',hA1,hg,hcell,hrow⟩:=hS.out.heads.ints hk
     subst hA1
     have hrl:=hrow.len
     have htg:(gg p ⟨1,(k:Int),b,ec,tt⟩).1=rn p.heads[k] b:=by unfold gg;simp [hn]
     generalize p.heads[k]=xs at hask htg hcell hrow hrl
     clear hn
     by_cases b0:b<0
     have b0z:decide (b<0)=true:=decide_eq_true b0
     have hf:=aa (hbad.out (by rw [hask];exact cj (by omega)))
     rotate_right
     focus
      have b0z:decide (b<0)=false:=decide_eq_false b0
      by_cases b1:(xs.length:Int)≤b
      have b1z:decide ((xs.length:Int)≤b)=true:=decide_eq_true b1
      have hf:=aa (hbad.out (by rw [hask];exact cj (by omega)))
      rotate_right
      focus
       have b1z:decide ((xs.length:Int)≤b)=false:=decide_eq_false b1
       obtain ⟨m,rfl,hm⟩:=gk b0 b1
       obtain ⟨g2,o2,rfl,hg2,hc2⟩:=hrow.int hm
       have b1y:decide (xs.length≤m)=false:=decide_eq_false (by omega)
       have hki:(k:Int)<(p.heads.length:Int):=by omega
       have hmi:(m:Int)<(xs.length:Int):=by omega
       have hf:=aa (show f6 p act ⟨1,(k:Int),(m:Int),ec,tt⟩=true from by rw [hask];exact eY hm)
       have ht:=aa (show (gg p ⟨1,(k:Int),(m:Int),ec,tt⟩).1=xs[m] from by rw [htg];exact qB hm)
       go_wp2_with fail
       go_quiet (fail)
       go_wp2_with fail
       go_quiet (fail)
       go_wp2
       go_meet
       exact ⟨hf.out,by rw [ht.out],aa (au (au (Hf _ _) _) _)⟩
    rotate_right
    focus
     rw [hb0] at hB0
     subst hB0
     have hf:=aa (hbad.out (by rw [hask,hn];exact cj (by simp)))
    all_goals
     go_wp2_with fail
     go_quiet (fail)
     go_wp2
     go_ret
     exact ⟨ad hf.out.symm,hwd.out _⟩
   rotate_right
   focus
    by_cases k2:kd=2
    focus
     subst k2
     have hask:f6 p act ⟨2,a,b,ec,tt⟩=(dJ p.metas.length a&&decide (b=0)):=by unfold f6 gg;simp
     by_cases a0:a<0
     focus
      skip
      have hf:=aa (hbad.out (by rw [hask,cj (by omega)];rfl))
     rotate_right
     focus
      by_cases a1:(p.metas.length:Int)≤a
      focus
       skip
       have hf:=aa (hbad.out (by rw [hask,cj (by omega)];rfl))
      rotate_right
      focus
       obtain ⟨m,rfl,hm⟩:=gk a0 a1
       obtain ⟨g2,o2,hA2,hg2,hc2⟩:=hS.out.metas.int hm
       subst hA2
       have a1y:¬p.metas.length≤m:=by omega
       have a1x:(m:Int)<(p.metas.length:Int):=by omega
       by_cases b0:b=0
       focus
        subst b0
        have hf:=aa (show f6 p act ⟨2,(m:Int),0,ec,tt⟩=true from by rw [hask,eY hm];rfl)
        have ht:=aa (show (gg p ⟨2,(m:Int),0,ec,tt⟩).1=p.metas[m] from by unfold gg;simp [qB hm])
        go_wp2
        go_meet
        exact ⟨hf.out,by rw [ht.out],aa (Hf _ _)⟩
       rotate_right
       have b0z:(b !=0)=true:=by simpa using b0
       have hf:=aa (hbad.out (by rw [hask,decide_eq_false b0,Bool.and_false]))
    rotate_right
    focus
     by_cases k3:kd=3
     focus
      subst k3
      have hask:f6 p act ⟨3,a,b,ec,tt⟩=(dJ p.tabs.length a&&decide (b=0)&& !decide (0≤act)):=by unfold f6 gg;simp
      by_cases q0:0≤act
      focus
       skip
       have hf:=aa (hbad.out (by rw [hask,decide_eq_true q0];simp))
      rotate_right
      focus
       rw [decide_eq_false q0,Bool.not_false,Bool.and_true] at hask
       by_cases a0:a<0
       focus
        skip
        have hf:=aa (hbad.out (by rw [hask,cj (by omega)];rfl))
       rotate_right
       focus
        by_cases a1:(p.tabs.length:Int)≤a
        focus
         skip
         have hf:=aa (hbad.out (by rw [hask,cj (by omega)];rfl))
        rotate_right
        focus
         obtain ⟨m,rfl,hm⟩:=gk a0 a1
         have a1y:¬p.tabs.length≤m:=by omega
         by_cases b0:b=0
         focus
          subst b0
          have hf:=aa (show f6 p act ⟨3,(m:Int),0,ec,tt⟩=true from by rw [hask,eY hm];rfl)
          have ht:=aa (show (gg p ⟨3,(m:Int),0,ec,tt⟩).1=0 from by unfold gg;simp)
          go_wp2
          go_meet
          exact ⟨hf.out,by rw [ht.out],aa (Hf _ _)⟩
         rotate_right
         have b0z:(b !=0)=true:=by simpa using b0
         have hf:=aa (hbad.out (by rw [hask,decide_eq_false b0,Bool.and_false]))
     rotate_right
     focus
      by_cases k6:kd=6
      focus
       subst k6
       have hask:f6 p act ⟨6,a,b,ec,tt⟩=(hd0&&(decide (b=0) ||decide (b=1))):=by unfold f6 gg;simp [hB0]
       cases hd0
       have hf:=aa (hbad.out (by rw [hask];rfl))
       rotate_right
       focus
        by_cases b0:b=0
        focus
         subst b0
         have hf:=aa (show f6 p act ⟨6,a,0,ec,tt⟩=true from by rw [hask];rfl)
         have ht:=aa (show (gg p ⟨6,a,0,ec,tt⟩).1=0 from by unfold gg;simp)
         go_wp2
         go_meet
         exact ⟨hf.out,by rw [ht.out],aa (Hf _ _)⟩
        rotate_right
        focus
         have b0z:(b !=0)=true:=by simpa using b0
         have b0y:(b==0)=false:=by simpa using b0
         by_cases b1:b=1
         focus
          subst b1
          have hf:=aa (show f6 p act ⟨6,a,1,ec,tt⟩=true from by rw [hask];rfl)
          have ht:=aa (show (gg p ⟨6,a,1,ec,tt⟩).1=0 from by unfold gg;simp)
          go_wp2
          go_meet
          exact ⟨hf.out,by rw [ht.out],aa (Hf _ _)⟩
         rotate_right
         have b1z:(b !=1)=true:=by simpa using b1
         have b1y:(b==1)=false:=by simpa using b1
         have hf:=aa (hbad.out (by rw [hask,decide_eq_false b0,decide_eq_false b1];rfl))
      rotate_right
      focus
       by_cases k7:kd=7∨kd=5∨kd=4∨kd=8
       focus
        have hask:f6 p act ⟨kd,a,b,ec,tt⟩=(decide (a=0)&&decide (b=0)):=by unfold f6 gg;rcases k7 with rfl|rfl|rfl|rfl<;>simp
        by_cases a0:a=0
        focus
         subst a0
         by_cases b0:b=0
         focus
          subst b0
          have hf:=aa (show f6 p act ⟨kd,0,0,ec,tt⟩=true from by rw [hask];rfl)
          rcases k7 with rfl|rfl|rfl|rfl
          all_goals go_wp2
          all_goals go_meet
          all_goals exact ⟨hf.out,rfl,aa (Hf _ _)⟩
         rotate_right
         have b0z:(b !=0)=true:=by simpa using b0
         have hf:=aa (hbad.out (by rw [hask,decide_eq_false b0,Bool.and_false]))
        rotate_right
        have a0z:(a !=0)=true:=by simpa using a0
        have hf:=aa (hbad.out (by rw [hask,decide_eq_false a0,Hg]))
        all_goals
         rcases k7 with rfl|rfl|rfl|rfl
         all_goals go_wp2
         all_goals go_ret
         all_goals exact ⟨ad hf.out.symm,hw.out⟩
       rotate_right
       focus
        simp only [not_or] at k7
        obtain ⟨k7,k5,k4,k8⟩:=k7
        have z1:=beq_eq_false_iff_ne.2 k1
        have z2:=beq_eq_false_iff_ne.2 k2
        have z3:=beq_eq_false_iff_ne.2 k3
        have z6:=beq_eq_false_iff_ne.2 k6
        have z7:=beq_eq_false_iff_ne.2 k7
        have z5:=beq_eq_false_iff_ne.2 k5
        have z4:=beq_eq_false_iff_ne.2 k4
        have z8:=beq_eq_false_iff_ne.2 k8
        have hf:=aa (hbad.out (by unfold f6 gg;simp only [if_neg k1,if_neg k2,if_neg k3,if_neg k6,if_neg k7,if_neg k5,decide_eq_false k4,decide_eq_false k8,Bool.false_or,Hg]))
   all_goals
    go_wp2
    go_ret
    exact ⟨ad hf.out.symm,hw.out⟩
  case rest=>
   obtain ⟨hok,rfl,hD⟩:=hcut
   have hT9:=gq A1 A2 A3 A4 A5 A6 A7 A8 A9 A10 A11 A12 p c1 c2 c3 c4 c5 c6 c7 c8 c9 c10 c11 c12 act ec A' c' wc ((hS.out.below hD.out).more hD.out.size) ((hEn.out.below bq hD.out).more bq hD.out.size)
   have hv2:=aa (show eL (ow p act) p act many i ⟨kd,a,b,ec,tt⟩=(qx ⟨kd,a,b,ec,tt⟩ i many&&ow p act (gg p ⟨kd,a,b,ec,tt⟩).1 ec) from by rw [hv.out,hok,Hk])
   have hg:=aa (hw.out.trans (hD.out.mono hw.out.size))
   have g1:=He hl1 hD.out.size
   have g2:=He hl2 hD.out.size
   have hY:=fun i=>hD.out.cell (p:=⟨w.heap.size,i,none⟩) hl1
   have hX:=fun i=>hD.out.cell (p:=⟨w.heap.size+1,i,none⟩) hl2
   have q0:=(hY 0).trans y0
   have q1:=(hY 1).trans y1
   have q2:=(hY 2).trans y2
   have q3:=(hY 3).trans y3
   have q4:=(hY 4).trans y4
   have q5:=(hY 5).trans y5
   have q6:=(hY 6).trans y6
   have q7:=(hY 7).trans y7
   have q8:=(hY 8).trans y8
   have q9:=(hY 9).trans y9
   have q10:=(hY 10).trans y10
   have q11:=(hY 11).trans y11
   have r0:=(hX 0).trans x0
   have r1:=(hX 1).trans x1
   have r2:=(hX 2).trans x2
   have r3:=(hX 3).trans x3
   have r4:=(hX 4).trans x4
   clear y0 y1 y2 y3 y4 y5 y6 y7 y8 y9 y10 y11 x0 x1 x2 x3 x4 hY hX hS hEn hwd hok hv hw hB0
   unfold Cw at hT9
   replace hT9:=aa hT9
   have hcd:=aa (fun (T:Int)=>show ow p act T ec=(if T=0 then ec.isEmpty else decide (jm p act ec=some T)) from rfl)
   generalize hTT:(gg p ⟨kd,a,b,ec,tt⟩).1=T at hv2 ⊢
   replace hTT:=aa hTT
   generalize jm p act ec=D at hT9 hcd
   by_cases k78:kd=7∨kd=8
   focus
    have hjv:qx ⟨kd,a,b,ec,tt⟩ i many=(decide ((i:Int)<tt)&&decide (tt≤many)):=by unfold qx;rw [if_pos k78]
    by_cases t0:tt≤(i:Int)
    focus
     have hf:=aa (show eL (ow p act) p act many i ⟨kd,a,b,ec,tt⟩=false from by rw [hv2.out,hjv,decide_eq_false (by omega)];rfl)
     rcases k78 with rfl|rfl
     all_goals go_wp2
     all_goals go_ret
     all_goals exact ⟨ad hf.out.symm,hg.out⟩
    rotate_right
    focus
     by_cases t1:(many:Int)<tt
     focus
      have hf:=aa (show eL (ow p act) p act many i ⟨kd,a,b,ec,tt⟩=false from by rw [hv2.out,hjv,decide_eq_false (show ¬tt≤(many:Int) by omega),Bool.and_false];rfl)
      rcases k78 with rfl|rfl
      all_goals go_wp2
      all_goals go_ret
      all_goals exact ⟨ad hf.out.symm,hg.out⟩
     rotate_right
     focus
      rw [decide_eq_true (show (i:Int)<tt by omega),decide_eq_true (show tt≤(many:Int) by omega),Bool.and_self] at hjv
      rcases k78 with rfl|rfl
      focus
       skip
       have hj:=aa (hjv)
       by_cases hT:T=0
       focus
        subst hT
        have hf:=aa (show eL (ow p act) p act many i ⟨7,a,b,ec,tt⟩=((ec.length:Int)==0) from by rw [hv2.out,hj.out,Hk,hcd.out,if_pos rfl];cases ec<;>simp<;>omega)
       rotate_right
       focus
        have hTz:(T==0)=false:=by simpa using hT
        have hf:=aa (show eL (ow p act) p act many i ⟨7,a,b,ec,tt⟩=decide (D=some T) from by rw [hv2.out,hj.out,Hk,hcd.out,if_neg hT])
        cases D with
        |none=>
         simp only [Option.getD_none,Option.isSome_none] at hT9
         go_wp2_with (go_at_call 69;refine hT9.out.mono ?_;rintro e w5 ⟨rfl,hb5⟩)
         go_ret
         exact ⟨ad hf.out.symm,hg.out.trans (hb5.mono hg.out.size)⟩
        |some y=>
         simp only [H9,Option.isSome_some] at hT9
         replace hf:=aa (hf.out.trans (show decide (some y=some T)=(y==T) from by rw [Hr];simp))
         go_wp2_with (go_at_call 69;refine hT9.out.mono ?_;rintro e w5 ⟨rfl,hb5⟩)
         go_ret
         exact ⟨ad hf.out.symm,hg.out.trans (hb5.mono hg.out.size)⟩
      rotate_right
      focus
       skip
       have hj:=aa (hjv)
       by_cases hT:T=0
       focus
        subst hT
        have hf:=aa (show eL (ow p act) p act many i ⟨8,a,b,ec,tt⟩=((ec.length:Int)==0) from by rw [hv2.out,hj.out,Hk,hcd.out,if_pos rfl];cases ec<;>simp<;>omega)
       rotate_right
       focus
        have hTz:(T==0)=false:=by simpa using hT
        have hf:=aa (show eL (ow p act) p act many i ⟨8,a,b,ec,tt⟩=decide (D=some T) from by rw [hv2.out,hj.out,Hk,hcd.out,if_neg hT])
        cases D with
        |none=>
         simp only [Option.getD_none,Option.isSome_none] at hT9
         go_wp2_with (go_at_call 69;refine hT9.out.mono ?_;rintro e w5 ⟨rfl,hb5⟩)
         go_ret
         exact ⟨ad hf.out.symm,hg.out.trans (hb5.mono hg.out.size)⟩
        |some y=>
         simp only [H9,Option.isSome_some] at hT9
         replace hf:=aa (hf.out.trans (show decide (some y=some T)=(y==T) from by rw [Hr];simp))
         go_wp2_with (go_at_call 69;refine hT9.out.mono ?_;rintro e w5 ⟨rfl,hb5⟩)
         go_ret
         exact ⟨ad hf.out.symm,hg.out.trans (hb5.mono hg.out.size)⟩
   rotate_right
   focus
    have hjv:qx ⟨kd,a,b,ec,tt⟩ i many=decide (tt=0):=by unfold qx;rw [if_neg k78]
    simp only [not_or] at k78
    have z7:=beq_eq_false_iff_ne.2 k78.1
    have z8:=beq_eq_false_iff_ne.2 k78.2
    by_cases t0:tt=0
    focus
     subst t0
     replace hjv:qx ⟨kd,a,b,ec,0⟩ i many=true:=hjv
     have hj:=aa (hjv)
     by_cases hT:T=0
     focus
      subst hT
      have hf:=aa (show eL (ow p act) p act many i ⟨kd,a,b,ec,0⟩=((ec.length:Int)==0) from by rw [hv2.out,hj.out,Hk,hcd.out,if_pos rfl];cases ec<;>simp<;>omega)
     rotate_right
     focus
      have hTz:(T==0)=false:=by simpa using hT
      have hf:=aa (show eL (ow p act) p act many i ⟨kd,a,b,ec,0⟩=decide (D=some T) from by rw [hv2.out,hj.out,Hk,hcd.out,if_neg hT])
      cases D with
      |none=>
       simp only [Option.getD_none,Option.isSome_none] at hT9
       go_wp2_with (go_at_call 69;refine hT9.out.mono ?_;rintro e w5 ⟨rfl,hb5⟩)
       go_ret
       exact ⟨ad hf.out.symm,hg.out.trans (hb5.mono hg.out.size)⟩
      |some y=>
       simp only [H9,Option.isSome_some] at hT9
       replace hf:=aa (hf.out.trans (show decide (some y=some T)=(y==T) from by rw [Hr];simp))
       go_wp2_with (go_at_call 69;refine hT9.out.mono ?_;rintro e w5 ⟨rfl,hb5⟩)
       go_ret
       exact ⟨ad hf.out.symm,hg.out.trans (hb5.mono hg.out.size)⟩
    rotate_right
    have t0z:(tt !=0)=true:=by simpa using t0
    have hf:=aa (show eL (ow p act) p act many i ⟨kd,a,b,ec,tt⟩=false from by rw [hv2.out,hjv,decide_eq_false t0];rfl)
   all_goals
    go_wp2
    go_ret
    exact ⟨ad hf.out.symm,hg.out⟩
theorem iM (A1 A2 A3 A4 A5 A6 A7 A8 A9 A10 A11 A12:Option Addr) (p:Lp) (c1 c2 c3 c4 c5 c6 c7 c8 c9 c10 c11 c12:Nat) (act:Int) (l:List oF) (A:Option Addr) (cap:Nat) (w:World) (h:cJ w w.heap.size A1 A2 A3 A4 A5 A6 A7 A8 A9 A10 A11 A12 p) (hc:Sl 5 oK w w.heap.size A l):
  Calls prog 64 #[.agg #[.slice A1 p.heads.length c1,.slice A2 p.metas.length c2,.slice A3 p.steps.length c3,.slice A4 p.acts.length c4,.slice A5 p.tabs.length c5,.slice A6 p.control.length c6,.slice A7 p.emit.length c7,.slice A8 p.nh.length c8,.slice A9 p.nf.length c9,.slice A10 p.nm.length c10,.slice A11 p.na.length c11,.slice A12 p.nt.length c12],.int .i64 act,.slice A l.length cap] w fun e w'=>e=.returned (.bool (fs p act l))∧Below w.heap.size w w':=by
 have hlen:=hc.len
 obtain ⟨wz,hwz,hsz,hbz,hcz,-⟩:=ak w #[.slice A1 p.heads.length c1,.slice A2 p.metas.length c2,.slice A3 p.steps.length c3,.slice A4 p.acts.length c4,.slice A5 p.tabs.length c5,.slice A6 p.control.length c6,.slice A7 p.emit.length c7,.slice A8 p.nh.length c8,.slice A9 p.nf.length c9,.slice A10 p.nm.length c10,.slice A11 p.na.length c11,.slice A12 p.nt.length c12] 33
 have hP:=aa (h.below hbz)
 have hC:=aa (hc.below bG hbz)
 have hl1:w.heap.size<wz.heap.size:=by omega
 have hlw:w.heap.size≤wz.heap.size:=by omega
 obtain ⟨y0,y1,y2,y3,y4,y5,y6,y7,y8,y9,y10,y11⟩:=aC hcz
 replace hbz:=aa hbz
 replace hsz:=aa hsz
 by_cases h6:65536<l.length
 ·have h6z:(65536:Int)<(l.length:Int):=by omega
  have hv:=aa (show fs p act l=false from by unfold fs mL;rw [decide_eq_false (by omega),Hg])
  clear hcz h hc
  go_enter func64,ntmps64
  go_wp2
  go_ret
  exact ⟨ad hv.out.symm,hbz.out⟩
 ·have h6z:¬(65536:Int)<(l.length:Int):=by omega
  have hv:=aa (show fs p act l=am (fun i=>aK (eL (ow p act) p act l.length i) l i) l.length from by unfold fs mL;rw [decide_eq_true (by omega),Hk])
  generalize hF:(fun i=>aK (eL (ow p act) p act l.length i) l i)=F at hv
  clear h hc hcz
  go_enter func64,ntmps64
  go_wp2
  go_loopw [7] (fun i wr=>∃ k:Nat,k≤l.length∧i=.int .i64 k∧Hid (am F k=true)∧Hid (Below wz.heap.size wz wr)) (fun i _=>l.length-(intOf i).toNat)
  case atStart=>exact ⟨0,Hm _,rfl,aa rfl,aa (Hf _ _)⟩
  case round=>
   obtain ⟨k,hk,rfl,hcn,hG⟩:=hrel
   have hzr:=hG.out.size
   have hgo:=aa (fun W (hW:Below wr.heap.size wr W)=>hbz.out.trans ((hG.out.trans (hW.mono hzr)).mono hbz.out.size))
   have hgG:=aa (fun W (hW:Below wr.heap.size wr W)=>hG.out.trans (hW.mono hzr))
   by_cases hlt:k<l.length
   ·have hkz:(k:Int)<(l.length:Int):=by omega
    obtain ⟨b,o,A',c',rfl,hb,n0,n1,n2,n3,n4,hE⟩:=hC.out.ins hlt
    have hFk:F k=eL (ow p act) p act l.length k l[k]:=by rw [←hF];simp only [ag _ hlt]
    have hN:=aa (fun (g:F k=true)=>show am F (k+1)=true from by rw [am,hcn.out,g];rfl)
    have hlo:=aa (fun (g:F k=false)=>show am F l.length=false from aN hlt g)
    clear hF
    generalize l[k]=x at n0 n1 n2 n3 n4 hE hFk
    have hX:∀ d os,Hid (Calls prog 123 #[.agg #[.slice A1 p.heads.length c1,.slice A2 p.metas.length c2,.slice A3 p.steps.length c3,.slice A4 p.acts.length c4,.slice A5 p.tabs.length c5,.slice A6 p.control.length c6,.slice A7 p.emit.length c7,.slice A8 p.nh.length c8,.slice A9 p.nf.length c9,.slice A10 p.nm.length c10,.slice A11 p.na.length c11,.slice A12 p.nt.length c12],.int .i64 act,.agg #[.int .u8 x.kind,.int .i64 x.a,.int .i64 x.b,.slice A' x.e.length c',.int .i64 x.to],.int .i64 (k:Int),.int .i64 (l.length:Int)] (Ht (redrawn wr d) os) _):=fun d os=>aa (rf A1 A2 A3 A4 A5 A6 A7 A8 A9 A10 A11 A12 p c1 c2 c3 c4 c5 c6 c7 c8 c9 c10 c11 c12 act x A' c' k l.length _ ((hP.out.below ((aW hG.out hzr d os).mono hlw)).more (Hj hlw (Hj hzr (below_regrown wr d os).size))) ((hE.below bq ((aW hG.out hzr d os).mono hlw)).more bq (Hj hlw (Hj hzr (below_regrown wr d os).size))) hlt (by omega))
    obtain ⟨kd,a,b2,ec,tt⟩:=x
    simp only at n0 n1 n2 n3 n4 hFk hX
    generalize eL (ow p act) p act l.length k ⟨kd,a,b2,ec,tt⟩=z at hX hFk
    have kbr:=ah hG.out
    have hbz1:b<wz.heap.size:=He hb hlw
    have n0r:=(kbr.1 _ (o+k*5) hbz1).trans n0
    have n1r:=(kbr.1 _ (o+k*5+1) hbz1).trans n1
    have n2r:=(kbr.1 _ (o+k*5+2) hbz1).trans n2
    have n3r:=(kbr.1 _ (o+k*5+3) hbz1).trans n3
    have n4r:=(kbr.1 _ (o+k*5+4) hbz1).trans n4
    have q0:=(kbr.1 _ 0 hl1).trans y0
    have q1:=(kbr.1 _ 1 hl1).trans y1
    have q2:=(kbr.1 _ 2 hl1).trans y2
    have q3:=(kbr.1 _ 3 hl1).trans y3
    have q4:=(kbr.1 _ 4 hl1).trans y4
    have q5:=(kbr.1 _ 5 hl1).trans y5
    have q6:=(kbr.1 _ 6 hl1).trans y6
    have q7:=(kbr.1 _ 7 hl1).trans y7
    have q8:=(kbr.1 _ 8 hl1).trans y8
    have q9:=(kbr.1 _ 9 hl1).trans y9
    have q10:=(kbr.1 _ 10 hl1).trans y10
    have q11:=(kbr.1 _ 11 hl1).trans y11
    have hgw:=aE (show Below wr.heap.size wr wr from Hf _ _) (Hh _)
    have hB1:=He hl1 hzr
    have hB2:=He hbz1 hzr
    clear kbr n0 n1 n2 n3 n4 y0 y1 y2 y3 y4 y5 y6 y7 y8 y9 y10 y11 hE
    cases z with
    |false=>
     replace hlo:=aa (hlo.out hFk)
     replace hFk:=aa hFk
     go_wp2_with fail
     refine bV ?_
     repeat (any_goals (first|go_big_quiet_step ((go_at_call 123;with_reducible exact Hi (hX _ _).out))|quiet_step ((go_at_call 123;with_reducible exact Hi (hX _ _).out))))
     refine wpQuiet_nil ?_
     intro wq hwq
     replace hwq:=ac hwq
     go_wp2
     go_ret
     exact ⟨ad (by rw [hv.out,hlo.out]),hgo.out _ hwq⟩
    |true=>
     replace hN:=aa (hN.out hFk)
     replace hFk:=aa hFk
     go_wp2_with fail
     refine bV ?_
     repeat (any_goals (first|go_big_quiet_step ((go_at_call 123;with_reducible exact Hi (hX _ _).out))|quiet_step ((go_at_call 123;with_reducible exact Hi (hX _ _).out))))
     refine wpQuiet_nil ?_
     intro wq hwq
     replace hwq:=ac hwq
     go_wp2
     go_roundw
     case rel=>exact ⟨k+1,by omega,by go_num,hN,aa (hgG.out _ hwq)⟩
     case measure=>simp [intOf];omega
   ·have hke:k=l.length:=by omega
    subst hke
    go_wp2
    go_ret
    exact ⟨ad (by rw [hv.out,hcn.out]),hgo.out _ (Hf _ _)⟩
theorem Sl.take {α:Type} {R:CR α} {k:Nat} {w:World} {B:Nat} {A:Option Addr} {xs:List α} (h:Sl k R w B A xs) (n:Nat):Sl k R w B A (xs.take n):=by
 refine ⟨Hj (by rw [HF];omega) h.1,fun i x hx=> ?_⟩
 rw [List.getElem?_take] at hx
 split at hx
 ·exact h.2 i x hx
 ·cases hx
theorem qd (A:Option Addr) (cap:Nat) (xs:List Int) (n:Nat) (w:World) (h:Sl 1 bd w w.heap.size A xs) (hcap:xs.length≤cap):
  Calls prog 63 #[.slice A xs.length cap,.int .i64 (n:Int)] w fun e w'=>e=.returned (.bool (oH xs n))∧Below w.heap.size w w':=by
 have hl:=h.len
 have hv:=aa (show oH xs n=am (fun i=>aK (fun x=>dJ n x&& !decide (x∈xs.take i)) xs i) xs.length from rfl)
 generalize hF:(fun i:Nat=>aK (fun x=>dJ n x&& !decide (x∈xs.take i)) xs i)=F at hv
 have hI:=aa (fun k y m=>nE A cap (xs.take k) y (w.drewN m) (((h.take k).drewN ai m).more ai (by simp)))
 go_enter func63,ntmps63
 go_wp2
 go_loopw [5] (fun i wr=>∃ k:Nat,k≤xs.length∧i=.int .i64 k∧Hid (am F k=true)∧∃ m,wr=w.drewN m) (fun i _=>xs.length-(intOf i).toNat)
 case atStart=>exact ⟨0,Hm _,rfl,aa rfl,0,rfl⟩
 case round=>
  obtain ⟨k,hk,rfl,hc,m,rfl⟩:=hrel
  by_cases hlt:k<xs.length
  focus
   obtain ⟨b,o,rfl,hb,hcell⟩:=h.int hlt
   have hkz:(k:Int)<(xs.length:Int):=by omega
   have hkc:(k:Int)≤(cap:Int):=by omega
   have hFk:F k=(dJ n xs[k]&& !decide (xs[k]∈xs.take k)):=by rw [←hF];simp only [ag _ hlt]
   have hN:=aa (fun (g:F k=true)=>show am F (k+1)=true from by rw [am,hc.out,g];rfl)
   have hlo:=aa (fun (g:F k=false)=>show am F xs.length=false from aN hlt g)
   have hIy:=fun m'=>hI.out k xs[k] (m+m')
   have hlk:(xs.take k).length=k:=by rw [HF];omega
   rw [hlk] at hIy
   clear h hF hI
   generalize xs[k]=x at*
   by_cases c1:x<0
   have d1:decide (x<0)=true:=decide_eq_true c1
   rotate_right
   focus
    have d1:decide (x<0)=false:=decide_eq_false c1
    by_cases c2:(n:Int)≤x
    have d2:decide ((n:Int)≤x)=true:=decide_eq_true c2
    rotate_right
    focus
     have d2:decide ((n:Int)≤x)=false:=decide_eq_false c2
     have hin:dJ n x=true:=by unfold dJ;simp;omega
     rw [hin,Hk] at hFk
     generalize decide (x∈xs.take k)=z at hFk hIy
     replace hIy:=aa hIy
     cases z with
     |false=>
      replace hN:=aa (hN.out (by rw [hFk];rfl))
      clear hFk hlo
      go_wp2_with fail
      go_quiet ((go_at_call 122;with_reducible exact gO (hIy.out _)))
      go_wp2
      go_roundw
      case rel=>exact ⟨k+1,by omega,by go_num,hN,_,rfl⟩
      case measure=>simp [intOf];omega
     |true=>
      replace hlo:=aa (hlo.out (by rw [hFk];rfl))
      clear hFk hN
      go_wp2_with fail
      go_quiet ((go_at_call 122;with_reducible exact gO (hIy.out _)))
      go_wp2
      go_ret
      exact ⟨ad (by rw [hv.out,hlo.out]),au (au (Hf _ _) _) _⟩
  rotate_right
  focus
   have hke:k=xs.length:=by omega
   subst hke
   go_wp2
   go_ret
   exact ⟨ad (by rw [hv.out,hc.out]),au (Hf _ _) _⟩
  all_goals
   replace hlo:=aa (hlo.out (by rw [hFk,cj (by omega)];rfl))
   clear hFk hN
   go_wp2_with fail
   go_quiet (fail)
   go_wp2
   go_ret
   exact ⟨ad (by rw [hv.out,hlo.out]),au (au (Hf _ _) _) _⟩
theorem tH (A1 A2 A3 A4 A5 A6 A7 A8 A9 A10 A11 A12:Option Addr) (p:Lp) (c1 c2 c3 c4 c5 c6 c7 c8 c9 c10 c11 c12:Nat) (t:eF) (P1 P2 P3 P4:Option Addr) (d1 d2 d3 d4:Nat) (w:World) (h:cJ w w.heap.size A1 A2 A3 A4 A5 A6 A7 A8 A9 A10 A11 A12 p) (h1:Sl 1 ro w w.heap.size P1 t.keys) (h2:Sl 1 Ct w w.heap.size P2 t.kinds) (h3:Sl 1 bd w w.heap.size P3 t.acts) (h4:Sl 2 ke w w.heap.size P4 t.run.args) (h5:t.acts.length≤d3):
  Calls prog 67 #[.agg #[.slice A1 p.heads.length c1,.slice A2 p.metas.length c2,.slice A3 p.steps.length c3,.slice A4 p.acts.length c4,.slice A5 p.tabs.length c5,.slice A6 p.control.length c6,.slice A7 p.emit.length c7,.slice A8 p.nh.length c8,.slice A9 p.nf.length c9,.slice A10 p.nm.length c10,.slice A11 p.na.length c11,.slice A12 p.nt.length c12],.agg #[.slice P1 t.keys.length d1,.slice P2 t.kinds.length d2,.slice P3 t.acts.length d3,.int .i64 t.run.act,.slice P4 t.run.args.length d4]] w fun e w'=>e=.returned (.bool (oI p t))∧Below w.heap.size w w':=by
 obtain ⟨ks,kinds,acts,ra,rg⟩:=t
 simp only at h1 h2 h3 h4 h5 ⊢
 have lt1:=h1.len
 have lt2:=h2.len
 have lt3:=h3.len
 have la:=h.acts.len
 obtain ⟨wz,hwz,hsz,hbz,hcz,-⟩:=ak w #[.slice A1 p.heads.length c1,.slice A2 p.metas.length c2,.slice A3 p.steps.length c3,.slice A4 p.acts.length c4,.slice A5 p.tabs.length c5,.slice A6 p.control.length c6,.slice A7 p.emit.length c7,.slice A8 p.nh.length c8,.slice A9 p.nf.length c9,.slice A10 p.nm.length c10,.slice A11 p.na.length c11,.slice A12 p.nt.length c12] 33
 obtain ⟨wa,hwa,hsa,hba,hca,-⟩:=ak wz #[.slice P1 ks.length d1,.slice P2 kinds.length d2,.slice P3 acts.length d3,.int .i64 ra,.slice P4 rg.length d4] 108
 have k0:w.heap.size<wz.heap.size:=by omega
 obtain ⟨y0,y1,y2,y3,y4,y5,y6,y7,y8,y9,y10,y11⟩:=aC fun i=>(hba.cell (p:=⟨w.heap.size,i,none⟩) k0).trans (hcz i)
 rw [hsz] at hca
 obtain ⟨x0,x1,x2,x3,x4⟩:=rB hca
 have hl1:w.heap.size<wa.heap.size:=by omega
 have hl2:w.heap.size+1<wa.heap.size:=by omega
 have hw:Below w.heap.size w wa:=hbz.trans (hba.mono (by omega))
 have hP:=aa ((h.below hw).more (B':=wa.heap.size) hw.size)
 have hK:=aa ((h1.below aS hw).more (B':=wa.heap.size) aS hw.size)
 have hk:=aa ((h2.below bX hw).more (B':=wa.heap.size) bX hw.size)
 have hA:=aa ((h3.below ai hw).more (B':=wa.heap.size) ai hw.size)
 have hG:=aa ((h4.below aw hw).more (B':=wa.heap.size) aw hw.size)
 have hv:=aa (show oI p ⟨ks,kinds,acts,⟨ra,rg⟩⟩=(decide (1≤ks.length)&&decide (ks.length≤4)&&decide (kinds.length=ks.length)&&decide (1≤acts.length)&&decide (acts.length≤16)&&oH acts p.acts.length&&
  am (fun i=>aK (fun c=>(jm p (-1) c).isSome) ks i&&aK cZ kinds i) ks.length&&decide (fv kinds<2)&&dD p acts ⟨ra,rg⟩) from rfl)
 have hDi:=qd P3 d3 acts p.acts.length wa hA.out h5
 generalize hF:(fun i=>aK (fun c=>(jm p (-1) c).isSome) ks i&&aK cZ kinds i)=F at hv
 generalize oH acts p.acts.length=S at hDi hv
 replace hDi:=aa hDi
 replace hw:=aa hw
 replace hsa:=aa hsa
 replace hF:=aa hF
 clear hca hcz hba hbz h h1 h2 h3 h4
 go_enter func67,ntmps67
 by_cases a1:1≤ks.length
 focus
  have a1z:¬(ks.length:Int)<1:=by omega
  rw [decide_eq_true a1,Hk] at hv
  by_cases a2:ks.length≤4
  focus
   have a2z:¬(4:Int)<(ks.length:Int):=by omega
   rw [decide_eq_true a2,Hk] at hv
   by_cases a3:kinds.length=ks.length
   focus
    have a3z:((kinds.length:Int) !=(ks.length:Int))=false:=by rw [a3];exact bne_self_eq_false _
    rw [decide_eq_true a3,Hk] at hv
    replace a3:=aa a3
    by_cases a4:1≤acts.length
    focus
     have a4z:¬(acts.length:Int)<1:=by omega
     rw [decide_eq_true a4,Hk] at hv
     by_cases a5:acts.length≤16
     focus
      have a5z:¬(16:Int)<(acts.length:Int):=by omega
      rw [decide_eq_true a5,Hk] at hv
      cases S with
      |false=>
       rw [Hg,Hg,Hg] at hv
       go_wp2_with (go_at_call 63;refine hDi.out.mono ?_;rintro e w3 ⟨rfl,hb3⟩)
       go_ret
       exact ⟨ad hv.out.symm,hw.out.trans (hb3.mono hw.out.size)⟩
      |true=>
       rw [Hk] at hv
       go_wp2_with (go_at_call 63;refine hDi.out.mono ?_;rintro e w3 ⟨rfl,hb3⟩)
       have hD0:=aa hb3
       clear hb3
       go_loopw [5,6,7,8] (fun s i _ _ wr=>∃ (k n:Nat),k≤ks.length∧i=.int .i64 k∧s=.int .i64 n∧n≤k∧Hid (fv (kinds.take k)=n)∧Hid (am F k=true)∧Hid (Below wa.heap.size wa wr)) (fun _ i _ _ _=>ks.length-(intOf i).toNat)
       case atStart=>exact ⟨0,0,Hm _,rfl,rfl,Hh _,aa rfl,aa rfl,hD0⟩
       case round=>
        obtain ⟨k,n,hk1,rfl,rfl,hnk,hn,hcn,hI⟩:=hrel
        have kbr:=ah hI.out
        have hzr:=hI.out.size
        have hgo:=aa (fun W (hW:Below wr.heap.size wr W)=>hw.out.trans ((hI.out.trans (hW.mono hzr)).mono hw.out.size))
        have u0:=(kbr.1 _ 0 hl1).trans y0
        have u1:=(kbr.1 _ 1 hl1).trans y1
        have u2:=(kbr.1 _ 2 hl1).trans y2
        have u3:=(kbr.1 _ 3 hl1).trans y3
        have u4:=(kbr.1 _ 4 hl1).trans y4
        have u5:=(kbr.1 _ 5 hl1).trans y5
        have u6:=(kbr.1 _ 6 hl1).trans y6
        have u7:=(kbr.1 _ 7 hl1).trans y7
        have u8:=(kbr.1 _ 8 hl1).trans y8
        have u9:=(kbr.1 _ 9 hl1).trans y9
        have u10:=(kbr.1 _ 10 hl1).trans y10
        have u11:=(kbr.1 _ 11 hl1).trans y11
        have v0:=(kbr.1 _ 0 hl2).trans x0
        by_cases hlt:k<ks.length
        ·have hkz:(k:Int)<(ks.length:Int):=by omega
         have hlt':k<kinds.length:=by rw [a3.out];exact hlt
         have hkz':(k:Int)<(kinds.length:Int):=by omega
         obtain ⟨b,o,A',c',hA1,hb,hcell,hE⟩:=hK.out.code hlt
         subst hA1
         obtain ⟨g,og,hA2,hg,hcell2⟩:=hk.out.byte hlt'
         subst hA2
         have hX:∀ d os,Hid (Calls prog 69 #[.agg #[.slice A1 p.heads.length c1,.slice A2 p.metas.length c2,.slice A3 p.steps.length c3,.slice A4 p.acts.length c4,.slice A5 p.tabs.length c5,.slice A6 p.control.length c6,.slice A7 p.emit.length c7,.slice A8 p.nh.length c8,.slice A9 p.nf.length c9,.slice A10 p.nm.length c10,.slice A11 p.na.length c11,.slice A12 p.nt.length c12],.int .i64 (-1),.slice A' ks[k].length c'] (Ht (redrawn wr d) os) _):=fun d os=>aa (gq A1 A2 A3 A4 A5 A6 A7 A8 A9 A10 A11 A12 p c1 c2 c3 c4 c5 c6 c7 c8 c9 c10 c11 c12 (-1) ks[k] A' c' _ ((hP.out.below (aW hI.out hzr d os)).more (Hj hzr (below_regrown wr d os).size)) ((hE.below bq (aW hI.out hzr d os)).more bq (Hj hzr (below_regrown wr d os).size)))
         have hFk:F k=((jm p (-1) ks[k]).isSome&&cZ kinds[k]):=by rw [←hF.out];simp only [ag _ hlt,ag _ hlt']
         have hp:=nU hlt'
         rw [hn.out] at hp
         have hN:=aa (fun (g:F k=true)=>show am F (k+1)=true from by rw [am,hcn.out,g];rfl)
         have hlo:=aa (fun (g:F k=false)=>show am F ks.length=false from aN hlt g)
         unfold Cw at hX
         generalize ks[k]=ec at hcell hE hX hFk
         generalize jm p (-1) ec=D at hX hFk
         generalize kinds[k]=x at hcell2 hFk hp
         have n0:=(kbr.1 _ (o+k) hb).trans hcell
         have hgw:=aE (show Below wr.heap.size wr wr from Hf _ _) (Hh _)
         have hB1:=He hl1 hzr
         have hB2':=He hl2 hzr
         have hB3:=He hb hzr
         have g0:=(kbr.1 _ (og+k) hg).trans hcell2
         have v1:=(kbr.1 _ 1 hl2).trans x1
         have hB4:=He hg hzr
         clear kbr hcell hcell2 hE
         cases D with
         |none=>
          rw [hlo.out (by rw [hFk];rfl),Hg,Hg] at hv
          replace hFk:=aa hFk
          replace hp:=aa hp
          simp only [Option.getD_none,Option.isSome_none] at hX
          go_wp2_with fail
          refine bV ?_
          repeat (any_goals (first|go_big_quiet_step ((go_at_call 69;with_reducible exact Hi (hX _ _).out))|quiet_step ((go_at_call 69;with_reducible exact Hi (hX _ _).out))))
          refine wpQuiet_nil ?_
          intro wq hwq
          replace hwq:=ac hwq
          go_wp2
          go_ret
          exact ⟨ad hv.out.symm,hgo.out _ hwq⟩
         |some y=>
          simp only [Option.isSome_some,Hk] at hFk
          simp only [H9,Option.isSome_some] at hX
          have hgG:=aa (fun W (hW:Below wr.heap.size wr W)=>hI.out.trans (hW.mono hzr))
          by_cases c1:1≤x∧x≤3
          ·obtain ⟨c2,c3⟩:=c1
           replace hN:=aa (hN.out (by rw [hFk];simp [cZ,c2,c3]))
           have c2z:¬x<1:=by omega
           have c3z:¬3<x:=by omega
           replace hFk:=aa hFk
           by_cases c4:x=2
           ·subst c4
            rw [if_pos rfl] at hp
            replace hp:=aa hp
            go_wp2_with fail
            refine bV ?_
            repeat (any_goals (first|go_big_quiet_step ((go_at_call 69;with_reducible exact Hi (hX _ _).out))|quiet_step ((go_at_call 69;with_reducible exact Hi (hX _ _).out))))
            refine wpQuiet_nil ?_
            intro wq hwq
            replace hwq:=ac hwq
            have g0q:=(hwq.cell (p:=⟨g,og+k,none⟩) hB4).trans g0
            have v1q:=(hwq.cell (p:=⟨w.heap.size+1,1,none⟩) hB2').trans v1
            have hwQ:=aa (hgG.out _ hwq)
            clear g0 v1 hwq u0 u1 u2 u3 u4 u5 u6 u7 u8 u9 u10 u11 v0 n0 hX hgw
            go_wp2
            go_roundw
            case rel=>exact ⟨k+1,n+1,by omega,by go_num,by go_num,by omega,hp,hN,hwQ⟩
            case measure=>simp [intOf];omega
           ·have c4z:(x==2)=false:=beq_eq_false_iff_ne.2 c4
            rw [if_neg c4,HU] at hp
            replace hp:=aa hp
            go_wp2_with fail
            refine bV ?_
            repeat (any_goals (first|go_big_quiet_step ((go_at_call 69;with_reducible exact Hi (hX _ _).out))|quiet_step ((go_at_call 69;with_reducible exact Hi (hX _ _).out))))
            refine wpQuiet_nil ?_
            intro wq hwq
            replace hwq:=ac hwq
            have g0q:=(hwq.cell (p:=⟨g,og+k,none⟩) hB4).trans g0
            have v1q:=(hwq.cell (p:=⟨w.heap.size+1,1,none⟩) hB2').trans v1
            have hwQ:=aa (hgG.out _ hwq)
            clear g0 v1 hwq u0 u1 u2 u3 u4 u5 u6 u7 u8 u9 u10 u11 v0 n0 hX hgw
            go_wp2
            go_roundw
            case rel=>exact ⟨k+1,n,by omega,by go_num,rfl,by omega,hp,hN,hwQ⟩
            case measure=>simp [intOf];omega
          ·rw [hlo.out (by rw [hFk];simp only [cZ,Bool.and_eq_false_iff,decide_eq_false_iff_not];omega),Hg,Hg] at hv
           replace hFk:=aa hFk
           replace hp:=aa hp
           go_wp2_with fail
           refine bV ?_
           repeat (any_goals (first|go_big_quiet_step ((go_at_call 69;with_reducible exact Hi (hX _ _).out))|quiet_step ((go_at_call 69;with_reducible exact Hi (hX _ _).out))))
           refine wpQuiet_nil ?_
           intro wq hwq
           replace hwq:=ac hwq
           have g0q:=(hwq.cell (p:=⟨g,og+k,none⟩) hB4).trans g0
           have v1q:=(hwq.cell (p:=⟨w.heap.size+1,1,none⟩) hB2').trans v1
           have hwQ:=aa (hgo.out _ hwq)
           clear g0 v1 hwq u0 u1 u2 u3 u4 u5 u6 u7 u8 u9 u10 u11 v0 n0 hX hgw
           by_cases c2:x<1
           ·go_wp2
            go_ret
            exact ⟨ad hv.out.symm,hwQ.out⟩
           ·have c3:3<x:=by omega
            go_wp2
            go_ret
            exact ⟨ad hv.out.symm,hwQ.out⟩
        ·have hke:k=ks.length:=by omega
         subst hke
         rw [←a3.out,HZ] at hn
         rw [hcn.out,hn.out,Hk] at hv
         have hlr:Below wa.heap.size wa wr:=hI.out
         have hR:=kT A1 A2 A3 A4 A5 A6 A7 A8 A9 A10 A11 A12 p c1 c2 c3 c4 c5 c6 c7 c8 c9 c10 c11 c12 P3 P4 d3 d4 acts ⟨ra,rg⟩ wr ((hP.out.below hlr).more hzr) ((hA.out.below ai hlr).more ai hzr) ((hG.out.below aw hlr).more aw hzr)
         simp only at hR
         generalize dD p acts ⟨ra,rg⟩=R at hR hv
         replace hR:=aa hR
         have v2:=(kbr.1 _ 2 hl2).trans x2
         have v3:=(kbr.1 _ 3 hl2).trans x3
         have v4:=(kbr.1 _ 4 hl2).trans x4
         clear kbr hlr
         by_cases b1:n<2
         ·have b1z:(n:Int)<2:=by omega
          rw [decide_eq_true b1,Hk] at hv
          go_wp2_with (go_at_call 68;refine hR.out.mono ?_;rintro e w5 ⟨rfl,hb5⟩)
          go_ret
          exact ⟨ad hv.out.symm,hgo.out _ hb5⟩
         ·have b1z:¬(n:Int)<2:=by omega
          rw [decide_eq_false b1,Hg] at hv
          go_wp2
          go_ret
          exact ⟨ad hv.out.symm,hgo.out _ (Hf _ _)⟩
     rotate_right
     have a5z:(16:Int)<(acts.length:Int):=by omega
     rw [decide_eq_false a5,Hg,Hg,Hg,Hg] at hv
    rotate_right
    have a4z:(acts.length:Int)<1:=by omega
    rw [decide_eq_false a4,Hg,Hg,Hg,Hg,Hg] at hv
   rotate_right
   have a3z:((kinds.length:Int) !=(ks.length:Int))=true:=by rw [bne_iff_ne];omega
   rw [decide_eq_false a3,Hg,Hg,Hg,Hg,Hg,Hg] at hv
   replace a3:=aa a3
  rotate_right
  have a2z:(4:Int)<(ks.length:Int):=by omega
  rw [decide_eq_false a2,Hg,Hg,Hg,Hg,Hg,Hg,Hg] at hv
 rotate_right
 have a1z:(ks.length:Int)<1:=by omega
 rw [decide_eq_false a1,Hg,Hg,Hg,Hg,Hg,Hg,Hg,Hg] at hv
 all_goals
  go_wp2
  go_ret
  exact ⟨ad hv.out.symm,hw.out⟩
end Go.Proofs.YtiebolhmdhdagaaGreatDoor

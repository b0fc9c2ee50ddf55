import Derived.Test.YtijcdfdbkffiaaaGreatDoorCbp15
set_option linter.all false
set_option maxHeartbeats 8000000
set_option maxRecDepth 100000
open Go.Proofs.Tryz
namespace Go.Proofs.YtijcdfdbkffiaaaGreatDoor
open _root_.Nat renaming lt_of_lt_of_le→Hr, le_refl→Ht, le_trans→Hw, zero_le→Hz, zero_add→H3
open _root_.Go.RowKit.Below renaming refl→Hs
open _root_.Bool renaming false_and→Hu, true_and→Hx, and_eq_true→Hy, eq_iff_iff→HF, false_eq_true→H2, and_eq_false_iff→Ib
open _root_.Go.Calls renaming regrown_of→Hv
open _root_.List renaming getElem_mem→HE, length_append→HM, length_cons→HN, length_take→HO, mem_append→HZ, take_length→H7, take_succ_eq_append_getElem→H9, eq_nil_of_length_eq_zero→Ie, length_pos_iff→Ij, drop_eq_getElem_cons→Iu
open _root_.Go.Sort renaming grow→HG
open _root_.Int renaming eq_ofNat_of_zero_le→HH
open _root_.Option renaming getD_some→If
open Go.RowKit
def fG (p:Lp) (act:Int) (x:mW):Bool:=(fO p x).2&& !(decide (0≤act)&&decide (x.kind=3))
theorem pM (A1 A2 A3 A4 A5 A6 A7 A8 A9 A10 A11 A12:Option Addr) (p:Lp) (c1 c2 c3 c4 c5 c6 c7 c8 c9 c10 c11 c12:Nat) (act:Int) (x:mW) (A':Option Addr) (c' i many:Nat) (w:World) (h:cz w w.heap.size A1 A2 A3 A4 A5 A6 A7 A8 A9 A10 A11 A12 p) (hE:Sl 6 zo w w.heap.size A' x.e) (hi:i<many) (hm:many≤65536):
  Calls prog 105 #[.agg (aO A1 A2 A3 A4 A5 A6 A7 A8 A9 A10 A11 A12 p c1 c2 c3 c4 c5 c6 c7 c8 c9 c10 c11 c12),.int .i64 act,.agg #[.int .u8 x.kind,.int .i64 x.a,.int .i64 x.b,.slice A' x.e.length c',.int .i64 x.to],.int .i64 i,.int .i64 many] w fun e w'=>e=.returned (.bool (ep (mT p act) p act many i x))∧Below w.heap.size w w':=by
 unfold aO
 obtain ⟨kd,a,b,ec,tt⟩:=x
 simp only at hE ⊢
 have lec:=hE.len
 have l1:=h.heads.len
 have l2:=h.metas.len
 have l5:=h.tabs.len
 obtain ⟨wz,hwz,hsz,hbz,hcz,-⟩:=af w (aO A1 A2 A3 A4 A5 A6 A7 A8 A9 A10 A11 A12 p c1 c2 c3 c4 c5 c6 c7 c8 c9 c10 c11 c12) 33
 obtain ⟨wa,hwa,hsa,hba,hca,-⟩:=af wz #[.int .u8 kd,.int .i64 a,.int .i64 b,.slice A' ec.length c',.int .i64 tt] 123
 have k0:w.heap.size<wz.heap.size:=by omega
 obtain ⟨y0,y1,y2,y3,y4,y5,y6,y7,y8,y9,y10,y11⟩:=aF fun i=>(hba.cell (p:=⟨w.heap.size,i,none⟩) k0).trans (hcz i)
 rw [hsz] at hca
 obtain ⟨x0,x1,x2,x3,x4⟩:=p8 hca
 have hl1:w.heap.size<wa.heap.size:=by omega
 have hl2:w.heap.size+1<wa.heap.size:=by omega
 have hw:Below w.heap.size w wa:=hbz.trans (hba.mono (by omega))
 have hS:=aa ((h.below hw).more (B':=wa.heap.size) hw.size)
 have hEn:=aa ((hE.below bm hw).more (B':=wa.heap.size) bm hw.size)
 have hwd:=aa (fun m=>hw.trans (au ((Hs wa.heap.size wa).mono hw.size) m))
 have hv:=aa (show ep (mT p act) p act many i ⟨kd,a,b,ec,tt⟩=(fG p act ⟨kd,a,b,ec,tt⟩&&oT ⟨kd,a,b,ec,tt⟩ i many&&mT p act (fO p ⟨kd,a,b,ec,tt⟩).1 ec) from rfl)
 replace hw:=aa hw
 replace hsa:=aa hsa
 clear hca hcz hba hbz h hE
 go_enter func105,ntmps105
 go_upto_region 2 with (fail)
 generalize hB0:dC p.heads.length a=hd0
 go_cut [12] (fun u wx=>u=.bool hd0∧wx=wa)
 case first=>
  go_wp2
  all_goals go_meet
  all_goals refine ⟨congrArg Value.bool ?_,rfl⟩
  all_goals rw [←hB0]
  all_goals clear hv hwd hEn hS hw hsa hB0
  all_goals (unfold dC;rw [HF];simp only [Hy,decide_eq_true_eq,H2,eq_self_iff_true,true_iff,false_iff];try omega)
 case rest=>
  obtain ⟨rfl,hcx⟩:=hcut
  replace hcx:=hcx.symm
  subst hcx
  go_upto_block 0 with (fail)
  go_cut [11] (fun u wx=>fG p act ⟨kd,a,b,ec,tt⟩=true∧u=.int .i64 (fO p ⟨kd,a,b,ec,tt⟩).1∧Hid (Below wa.heap.size wa wx))
  case first=>
   have hbad:=aa (fun (g:fG p act ⟨kd,a,b,ec,tt⟩=false)=>show ep (mT p act) p act many i ⟨kd,a,b,ec,tt⟩=false from by rw [hv.out,g,Hu,Hu])
   by_cases k1:kd=1
   focus
    subst k1
    have hask:fG p act ⟨1,a,b,ec,tt⟩=dC ((eC p.heads a).getD []).length b:=by unfold fG fO;simp
    rcases di p.heads a with ⟨k,rfl,hk,hn⟩|⟨hn,hb0,-⟩
    focus
     rw [eF hk] at hB0
     subst hB0
     rw [hn] at hask
     simp only [If] at hask
     obtain ⟨g,o,A1',c1',hA1,hg,hcell,hrow⟩:=hS.out.heads.ints hk
     subst hA1
     have hrl:=hrow.len
     have htg:(fO p ⟨1,(k:Int),b,ec,tt⟩).1=pS p.heads[k] b:=by unfold fO;simp [hn]
     generalize p.heads[k]=xs at hask htg hcell hrow hrl
     clear hn
     by_cases b0:b<0
     have b0z:decide (b<0)=true:=decide_eq_true b0
     have hf:=aa (hbad.out (by rw [hask];exact bS (by omega)))
     rotate_right
     focus
      have b0z:decide (b<0)=false:=decide_eq_false b0
      by_cases b1:(xs.length:Int)≤b
      have b1z:decide ((xs.length:Int)≤b)=true:=decide_eq_true b1
      have hf:=aa (hbad.out (by rw [hask];exact bS (by omega)))
      rotate_right
      focus
       have b1z:decide ((xs.length:Int)≤b)=false:=decide_eq_false b1
       obtain ⟨m,rfl,hm⟩:=fQ b0 b1
       obtain ⟨g2,o2,rfl,hg2,hc2⟩:=hrow.int hm
       have b1y:decide (xs.length≤m)=false:=decide_eq_false (by omega)
       have hki:(k:Int)<(p.heads.length:Int):=by omega
       have hmi:(m:Int)<(xs.length:Int):=by omega
       have hf:=aa (show fG p act ⟨1,(k:Int),(m:Int),ec,tt⟩=true from by rw [hask];exact eF hm)
       have ht:=aa (show (fO p ⟨1,(k:Int),(m:Int),ec,tt⟩).1=xs[m] from by rw [htg];exact oZ hm)
       go_wp2_with fail
       go_quiet (fail)
       go_wp2_with fail
       go_quiet (fail)
       go_wp2
       go_meet
       exact ⟨hf.out,by rw [ht.out],aa (au (au (Hs _ _) _) _)⟩
    rotate_right
    focus
     rw [hb0] at hB0
     subst hB0
     have hf:=aa (hbad.out (by rw [hask,hn];exact bS (by simp)))
    all_goals
     go_wp2_with fail
     go_quiet (fail)
     go_wp2
     go_ret
     exact ⟨ad hf.out.symm,hwd.out _⟩
   rotate_right
   focus
    by_cases k2:kd=2
    focus
     subst k2
     have hask:fG p act ⟨2,a,b,ec,tt⟩=(dC p.metas.length a&&decide (b=0)):=by unfold fG fO;simp
     by_cases a0:a<0
     focus
      skip
      have hf:=aa (hbad.out (by rw [hask,bS (by omega)];rfl))
     rotate_right
     focus
      by_cases a1:(p.metas.length:Int)≤a
      focus
       skip
       have hf:=aa (hbad.out (by rw [hask,bS (by omega)];rfl))
      rotate_right
      focus
       obtain ⟨m,rfl,hm⟩:=fQ a0 a1
       obtain ⟨g2,o2,hA2,hg2,hc2⟩:=hS.out.metas.int hm
       subst hA2
       have a1y:¬p.metas.length≤m:=by omega
       have a1x:(m:Int)<(p.metas.length:Int):=by omega
       by_cases b0:b=0
       focus
        subst b0
        have hf:=aa (show fG p act ⟨2,(m:Int),0,ec,tt⟩=true from by rw [hask,eF hm];rfl)
        have ht:=aa (show (fO p ⟨2,(m:Int),0,ec,tt⟩).1=p.metas[m] from by unfold fO;simp [oZ hm])
        go_wp2
        go_meet
        exact ⟨hf.out,by rw [ht.out],aa (Hs _ _)⟩
       rotate_right
       have b0z:(b !=0)=true:=by simpa using b0
       have hf:=aa (hbad.out (by rw [hask,decide_eq_false b0,Bool.and_false]))
    rotate_right
    focus
     by_cases k3:kd=3
     focus
      subst k3
      have hask:fG p act ⟨3,a,b,ec,tt⟩=(dC p.tabs.length a&&decide (b=0)&& !decide (0≤act)):=by unfold fG fO;simp
      by_cases q0:0≤act
      focus
       skip
       have hf:=aa (hbad.out (by rw [hask,decide_eq_true q0];simp))
      rotate_right
      focus
       rw [decide_eq_false q0,Bool.not_false,Bool.and_true] at hask
       by_cases a0:a<0
       focus
        skip
        have hf:=aa (hbad.out (by rw [hask,bS (by omega)];rfl))
       rotate_right
       focus
        by_cases a1:(p.tabs.length:Int)≤a
        focus
         skip
         have hf:=aa (hbad.out (by rw [hask,bS (by omega)];rfl))
        rotate_right
        focus
         obtain ⟨m,rfl,hm⟩:=fQ a0 a1
         have a1y:¬p.tabs.length≤m:=by omega
         by_cases b0:b=0
         focus
          subst b0
          have hf:=aa (show fG p act ⟨3,(m:Int),0,ec,tt⟩=true from by rw [hask,eF hm];rfl)
          have ht:=aa (show (fO p ⟨3,(m:Int),0,ec,tt⟩).1=0 from by unfold fO;simp)
          go_wp2
          go_meet
          exact ⟨hf.out,by rw [ht.out],aa (Hs _ _)⟩
         rotate_right
         have b0z:(b !=0)=true:=by simpa using b0
         have hf:=aa (hbad.out (by rw [hask,decide_eq_false b0,Bool.and_false]))
     rotate_right
     focus
      by_cases k6:kd=6
      focus
       subst k6
       have hask:fG p act ⟨6,a,b,ec,tt⟩=(hd0&&(decide (b=0) ||decide (b=1))):=by unfold fG fO;simp [hB0]
       cases hd0
       have hf:=aa (hbad.out (by rw [hask];rfl))
       rotate_right
       focus
        by_cases b0:b=0
        focus
         subst b0
         have hf:=aa (show fG p act ⟨6,a,0,ec,tt⟩=true from by rw [hask];rfl)
         have ht:=aa (show (fO p ⟨6,a,0,ec,tt⟩).1=0 from by unfold fO;simp)
         go_wp2
         go_meet
         exact ⟨hf.out,by rw [ht.out],aa (Hs _ _)⟩
        rotate_right
        focus
         have b0z:(b !=0)=true:=by simpa using b0
         have b0y:(b==0)=false:=by simpa using b0
         by_cases b1:b=1
         focus
          subst b1
          have hf:=aa (show fG p act ⟨6,a,1,ec,tt⟩=true from by rw [hask];rfl)
          have ht:=aa (show (fO p ⟨6,a,1,ec,tt⟩).1=0 from by unfold fO;simp)
          go_wp2
          go_meet
          exact ⟨hf.out,by rw [ht.out],aa (Hs _ _)⟩
         rotate_right
         have b1z:(b !=1)=true:=by simpa using b1
         have b1y:(b==1)=false:=by simpa using b1
         have hf:=aa (hbad.out (by rw [hask,decide_eq_false b0,decide_eq_false b1];rfl))
      rotate_right
      focus
       by_cases k7:kd=7∨kd=5∨kd=4∨kd=8
       focus
        have hask:fG p act ⟨kd,a,b,ec,tt⟩=(decide (a=0)&&decide (b=0)):=by unfold fG fO;rcases k7 with rfl|rfl|rfl|rfl<;>simp
        by_cases a0:a=0
        focus
         subst a0
         by_cases b0:b=0
         focus
          subst b0
          have hf:=aa (show fG p act ⟨kd,0,0,ec,tt⟩=true from by rw [hask];rfl)
          rcases k7 with rfl|rfl|rfl|rfl
          all_goals go_wp2
          all_goals go_meet
          all_goals exact ⟨hf.out,rfl,aa (Hs _ _)⟩
         rotate_right
         have b0z:(b !=0)=true:=by simpa using b0
         have hf:=aa (hbad.out (by rw [hask,decide_eq_false b0,Bool.and_false]))
        rotate_right
        have a0z:(a !=0)=true:=by simpa using a0
        have hf:=aa (hbad.out (by rw [hask,decide_eq_false a0,Hu]))
        all_goals
         rcases k7 with rfl|rfl|rfl|rfl
         all_goals go_wp2
         all_goals go_ret
         all_goals exact ⟨ad hf.out.symm,hw.out⟩
       rotate_right
       focus
        simp only [not_or] at k7
        obtain ⟨k7,k5,k4,k8⟩:=k7
        have z1:=beq_eq_false_iff_ne.2 k1
        have z2:=beq_eq_false_iff_ne.2 k2
        have z3:=beq_eq_false_iff_ne.2 k3
        have z6:=beq_eq_false_iff_ne.2 k6
        have z7:=beq_eq_false_iff_ne.2 k7
        have z5:=beq_eq_false_iff_ne.2 k5
        have z4:=beq_eq_false_iff_ne.2 k4
        have z8:=beq_eq_false_iff_ne.2 k8
        have hf:=aa (hbad.out (by unfold fG fO;simp only [if_neg k1,if_neg k2,if_neg k3,if_neg k6,if_neg k7,if_neg k5,decide_eq_false k4,decide_eq_false k8,Bool.false_or,Hu]))
   all_goals
    go_wp2
    go_ret
    exact ⟨ad hf.out.symm,hw.out⟩
  case rest=>
   obtain ⟨hok,rfl,hD⟩:=hcut
   have hT9:=fY A1 A2 A3 A4 A5 A6 A7 A8 A9 A10 A11 A12 p c1 c2 c3 c4 c5 c6 c7 c8 c9 c10 c11 c12 act ec A' c' wc ((hS.out.below hD.out).more hD.out.size) ((hEn.out.below bm hD.out).more bm hD.out.size)
   have hv2:=aa (show ep (mT p act) p act many i ⟨kd,a,b,ec,tt⟩=(oT ⟨kd,a,b,ec,tt⟩ i many&&mT p act (fO p ⟨kd,a,b,ec,tt⟩).1 ec) from by rw [hv.out,hok,Hx])
   have hg:=aa (hw.out.trans (hD.out.mono hw.out.size))
   have g1:=Hr hl1 hD.out.size
   have g2:=Hr hl2 hD.out.size
   have hY:=fun i=>hD.out.cell (p:=⟨w.heap.size,i,none⟩) hl1
   have hX:=fun i=>hD.out.cell (p:=⟨w.heap.size+1,i,none⟩) hl2
   have q0:=(hY 0).trans y0
   have q1:=(hY 1).trans y1
   have q2:=(hY 2).trans y2
   have q3:=(hY 3).trans y3
   have q4:=(hY 4).trans y4
   have q5:=(hY 5).trans y5
   have q6:=(hY 6).trans y6
   have q7:=(hY 7).trans y7
   have q8:=(hY 8).trans y8
   have q9:=(hY 9).trans y9
   have q10:=(hY 10).trans y10
   have q11:=(hY 11).trans y11
   have r0:=(hX 0).trans x0
   have r1:=(hX 1).trans x1
   have r2:=(hX 2).trans x2
   have r3:=(hX 3).trans x3
   have r4:=(hX 4).trans x4
   clear y0 y1 y2 y3 y4 y5 y6 y7 y8 y9 y10 y11 x0 x1 x2 x3 x4 hY hX hS hEn hwd hok hv hw hB0
   unfold Cc at hT9
   replace hT9:=aa hT9
   have hcd:=aa (fun (T:Int)=>show mT p act T ec=(if T=0 then ec.isEmpty else decide (iJ p act ec=some T)) from rfl)
   generalize hTT:(fO p ⟨kd,a,b,ec,tt⟩).1=T at hv2 ⊢
   replace hTT:=aa hTT
   generalize iJ p act ec=D at hT9 hcd
   by_cases k78:kd=7∨kd=8
   focus
    have hjv:oT ⟨kd,a,b,ec,tt⟩ i many=(decide ((i:Int)<tt)&&decide (tt≤many)):=by unfold oT;rw [if_pos k78]
    by_cases t0:tt≤(i:Int)
    focus
     have hf:=aa (show ep (mT p act) p act many i ⟨kd,a,b,ec,tt⟩=false from by rw [hv2.out,hjv,decide_eq_false (by omega)];rfl)
     rcases k78 with rfl|rfl
     all_goals go_wp2
     all_goals go_ret
     all_goals exact ⟨ad hf.out.symm,hg.out⟩
    rotate_right
    focus
     by_cases t1:(many:Int)<tt
     focus
      have hf:=aa (show ep (mT p act) p act many i ⟨kd,a,b,ec,tt⟩=false from by rw [hv2.out,hjv,decide_eq_false (show ¬tt≤(many:Int) by omega),Bool.and_false];rfl)
      rcases k78 with rfl|rfl
      all_goals go_wp2
      all_goals go_ret
      all_goals exact ⟨ad hf.out.symm,hg.out⟩
     rotate_right
     focus
      rw [decide_eq_true (show (i:Int)<tt by omega),decide_eq_true (show tt≤(many:Int) by omega),Bool.and_self] at hjv
      rcases k78 with rfl|rfl
      focus
       skip
       have hj:=aa (hjv)
       by_cases hT:T=0
       focus
        subst hT
        have hf:=aa (show ep (mT p act) p act many i ⟨7,a,b,ec,tt⟩=((ec.length:Int)==0) from by rw [hv2.out,hj.out,Hx,hcd.out,if_pos rfl];cases ec<;>simp<;>omega)
       rotate_right
       focus
        have hTz:(T==0)=false:=by simpa using hT
        have hf:=aa (show ep (mT p act) p act many i ⟨7,a,b,ec,tt⟩=decide (D=some T) from by rw [hv2.out,hj.out,Hx,hcd.out,if_neg hT])
        cases D with
        |none=>
         simp only [Option.getD_none,Option.isSome_none] at hT9
         go_wp2_with (go_at_call 55;refine hT9.out.mono ?_;rintro e w5 ⟨rfl,hb5⟩)
         go_ret
         exact ⟨ad hf.out.symm,hg.out.trans (hb5.mono hg.out.size)⟩
        |some y=>
         simp only [If,Option.isSome_some] at hT9
         replace hf:=aa (hf.out.trans (show decide (some y=some T)=(y==T) from by rw [HF];simp))
         go_wp2_with (go_at_call 55;refine hT9.out.mono ?_;rintro e w5 ⟨rfl,hb5⟩)
         go_ret
         exact ⟨ad hf.out.symm,hg.out.trans (hb5.mono hg.out.size)⟩
      rotate_right
      focus
       skip
       have hj:=aa (hjv)
       by_cases hT:T=0
       focus
        subst hT
        have hf:=aa (show ep (mT p act) p act many i ⟨8,a,b,ec,tt⟩=((ec.length:Int)==0) from by rw [hv2.out,hj.out,Hx,hcd.out,if_pos rfl];cases ec<;>simp<;>omega)
       rotate_right
       focus
        have hTz:(T==0)=false:=by simpa using hT
        have hf:=aa (show ep (mT p act) p act many i ⟨8,a,b,ec,tt⟩=decide (D=some T) from by rw [hv2.out,hj.out,Hx,hcd.out,if_neg hT])
        cases D with
        |none=>
         simp only [Option.getD_none,Option.isSome_none] at hT9
         go_wp2_with (go_at_call 55;refine hT9.out.mono ?_;rintro e w5 ⟨rfl,hb5⟩)
         go_ret
         exact ⟨ad hf.out.symm,hg.out.trans (hb5.mono hg.out.size)⟩
        |some y=>
         simp only [If,Option.isSome_some] at hT9
         replace hf:=aa (hf.out.trans (show decide (some y=some T)=(y==T) from by rw [HF];simp))
         go_wp2_with (go_at_call 55;refine hT9.out.mono ?_;rintro e w5 ⟨rfl,hb5⟩)
         go_ret
         exact ⟨ad hf.out.symm,hg.out.trans (hb5.mono hg.out.size)⟩
   rotate_right
   focus
    have hjv:oT ⟨kd,a,b,ec,tt⟩ i many=decide (tt=0):=by unfold oT;rw [if_neg k78]
    simp only [not_or] at k78
    have z7:=beq_eq_false_iff_ne.2 k78.1
    have z8:=beq_eq_false_iff_ne.2 k78.2
    by_cases t0:tt=0
    focus
     subst t0
     replace hjv:oT ⟨kd,a,b,ec,0⟩ i many=true:=hjv
     have hj:=aa (hjv)
     by_cases hT:T=0
     focus
      subst hT
      have hf:=aa (show ep (mT p act) p act many i ⟨kd,a,b,ec,0⟩=((ec.length:Int)==0) from by rw [hv2.out,hj.out,Hx,hcd.out,if_pos rfl];cases ec<;>simp<;>omega)
     rotate_right
     focus
      have hTz:(T==0)=false:=by simpa using hT
      have hf:=aa (show ep (mT p act) p act many i ⟨kd,a,b,ec,0⟩=decide (D=some T) from by rw [hv2.out,hj.out,Hx,hcd.out,if_neg hT])
      cases D with
      |none=>
       simp only [Option.getD_none,Option.isSome_none] at hT9
       go_wp2_with (go_at_call 55;refine hT9.out.mono ?_;rintro e w5 ⟨rfl,hb5⟩)
       go_ret
       exact ⟨ad hf.out.symm,hg.out.trans (hb5.mono hg.out.size)⟩
      |some y=>
       simp only [If,Option.isSome_some] at hT9
       replace hf:=aa (hf.out.trans (show decide (some y=some T)=(y==T) from by rw [HF];simp))
       go_wp2_with (go_at_call 55;refine hT9.out.mono ?_;rintro e w5 ⟨rfl,hb5⟩)
       go_ret
       exact ⟨ad hf.out.symm,hg.out.trans (hb5.mono hg.out.size)⟩
    rotate_right
    have t0z:(tt !=0)=true:=by simpa using t0
    have hf:=aa (show ep (mT p act) p act many i ⟨kd,a,b,ec,tt⟩=false from by rw [hv2.out,hjv,decide_eq_false t0];rfl)
   all_goals
    go_wp2
    go_ret
    exact ⟨ad hf.out.symm,hg.out⟩
theorem ie (A1 A2 A3 A4 A5 A6 A7 A8 A9 A10 A11 A12:Option Addr) (p:Lp) (c1 c2 c3 c4 c5 c6 c7 c8 c9 c10 c11 c12:Nat) (act:Int) (l:List mW) (A:Option Addr) (cap:Nat) (w:World) (h:cz w w.heap.size A1 A2 A3 A4 A5 A6 A7 A8 A9 A10 A11 A12 p) (hc:Sl 5 m7 w w.heap.size A l):
  Calls prog 50 #[.agg (aO A1 A2 A3 A4 A5 A6 A7 A8 A9 A10 A11 A12 p c1 c2 c3 c4 c5 c6 c7 c8 c9 c10 c11 c12),.int .i64 act,.slice A l.length cap] w fun e w'=>e=.returned (.bool (eR p act l))∧Below w.heap.size w w':=by
 unfold aO
 have hlen:=hc.len
 obtain ⟨wz,hwz,hsz,hbz,hcz,-⟩:=af w (aO A1 A2 A3 A4 A5 A6 A7 A8 A9 A10 A11 A12 p c1 c2 c3 c4 c5 c6 c7 c8 c9 c10 c11 c12) 33
 have hP:=aa (h.below hbz)
 have hC:=aa (hc.below bz hbz)
 have hl1:w.heap.size<wz.heap.size:=by omega
 have hlw:w.heap.size≤wz.heap.size:=by omega
 obtain ⟨y0,y1,y2,y3,y4,y5,y6,y7,y8,y9,y10,y11⟩:=aF hcz
 replace hbz:=aa hbz
 replace hsz:=aa hsz
 by_cases h6:65536<l.length
 ·have h6z:(65536:Int)<(l.length:Int):=by omega
  have hv:=aa (show eR p act l=false from by unfold eR kW;rw [decide_eq_false (by omega),Hu])
  clear hcz h hc
  go_enter func50,ntmps50
  go_wp2
  go_ret
  exact ⟨ad hv.out.symm,hbz.out⟩
 ·have h6z:¬(65536:Int)<(l.length:Int):=by omega
  have hv:=aa (show eR p act l=ar (fun i=>aZ (ep (mT p act) p act l.length i) l i) l.length from by unfold eR kW;rw [decide_eq_true (by omega),Hx])
  generalize hF:(fun i=>aZ (ep (mT p act) p act l.length i) l i)=F at hv
  clear h hc hcz
  go_enter func50,ntmps50
  go_wp2
  go_loopw [7] (fun i wr=>∃ k:Nat,k≤l.length∧i=.int .i64 k∧Hid (ar F k=true)∧Hid (Below wz.heap.size wz wr)) (fun i _=>l.length-(intOf i).toNat)
  case atStart=>exact ⟨0,Hz _,rfl,aa rfl,aa (Hs _ _)⟩
  case round=>
   obtain ⟨k,hk,rfl,hcn,hG⟩:=hrel
   have hzr:=hG.out.size
   have hgo:=aa (fun W (hW:Below wr.heap.size wr W)=>hbz.out.trans ((hG.out.trans (hW.mono hzr)).mono hbz.out.size))
   have hgG:=aa (fun W (hW:Below wr.heap.size wr W)=>hG.out.trans (hW.mono hzr))
   by_cases hlt:k<l.length
   ·have hkz:(k:Int)<(l.length:Int):=by omega
    obtain ⟨b,o,A',c',rfl,hb,n0,n1,n2,n3,n4,hE⟩:=hC.out.ins hlt
    have hFk:F k=ep (mT p act) p act l.length k l[k]:=by rw [←hF];simp only [am _ hlt]
    have hN:=aa (fun (g:F k=true)=>show ar F (k+1)=true from by rw [ar,hcn.out,g];rfl)
    have hlo:=aa (fun (g:F k=false)=>show ar F l.length=false from ba hlt g)
    clear hF
    generalize l[k]=x at n0 n1 n2 n3 n4 hE hFk
    have hX:∀ d os,Hid (Calls prog 105 #[.agg (aO A1 A2 A3 A4 A5 A6 A7 A8 A9 A10 A11 A12 p c1 c2 c3 c4 c5 c6 c7 c8 c9 c10 c11 c12),.int .i64 act,.agg #[.int .u8 x.kind,.int .i64 x.a,.int .i64 x.b,.slice A' x.e.length c',.int .i64 x.to],.int .i64 (k:Int),.int .i64 (l.length:Int)] (HG (redrawn wr d) os) _):=fun d os=>aa (pM A1 A2 A3 A4 A5 A6 A7 A8 A9 A10 A11 A12 p c1 c2 c3 c4 c5 c6 c7 c8 c9 c10 c11 c12 act x A' c' k l.length _ ((hP.out.below ((aU hG.out hzr d os).mono hlw)).more (Hw hlw (Hw hzr (below_regrown wr d os).size))) ((hE.below bm ((aU hG.out hzr d os).mono hlw)).more bm (Hw hlw (Hw hzr (below_regrown wr d os).size))) hlt (by omega))
    obtain ⟨kd,a,b2,ec,tt⟩:=x
    simp only at n0 n1 n2 n3 n4 hFk hX
    generalize ep (mT p act) p act l.length k ⟨kd,a,b2,ec,tt⟩=z at hX hFk
    have kbr:=ae hG.out
    have hbz1:b<wz.heap.size:=Hr hb hlw
    have n0r:=(kbr.1 _ (o+k*5) hbz1).trans n0
    have n1r:=(kbr.1 _ (o+k*5+1) hbz1).trans n1
    have n2r:=(kbr.1 _ (o+k*5+2) hbz1).trans n2
    have n3r:=(kbr.1 _ (o+k*5+3) hbz1).trans n3
    have n4r:=(kbr.1 _ (o+k*5+4) hbz1).trans n4
    have q0:=(kbr.1 _ 0 hl1).trans y0
    have q1:=(kbr.1 _ 1 hl1).trans y1
    have q2:=(kbr.1 _ 2 hl1).trans y2
    have q3:=(kbr.1 _ 3 hl1).trans y3
    have q4:=(kbr.1 _ 4 hl1).trans y4
    have q5:=(kbr.1 _ 5 hl1).trans y5
    have q6:=(kbr.1 _ 6 hl1).trans y6
    have q7:=(kbr.1 _ 7 hl1).trans y7
    have q8:=(kbr.1 _ 8 hl1).trans y8
    have q9:=(kbr.1 _ 9 hl1).trans y9
    have q10:=(kbr.1 _ 10 hl1).trans y10
    have q11:=(kbr.1 _ 11 hl1).trans y11
    have hgw:=aS (show Below wr.heap.size wr wr from Hs _ _) (Ht _)
    have hB1:=Hr hl1 hzr
    have hB2:=Hr hbz1 hzr
    clear kbr n0 n1 n2 n3 n4 y0 y1 y2 y3 y4 y5 y6 y7 y8 y9 y10 y11 hE
    cases z with
    |false=>
     replace hlo:=aa (hlo.out hFk)
     replace hFk:=aa hFk
     go_wp2_with fail
     refine cR ?_
     repeat (any_goals (first|go_big_quiet_step ((go_at_call 105;with_reducible exact Hv (hX _ _).out))|quiet_step ((go_at_call 105;with_reducible exact Hv (hX _ _).out))))
     refine wpQuiet_nil ?_
     intro wq hwq
     replace hwq:=ac hwq
     go_wp2
     go_ret
     exact ⟨ad (by rw [hv.out,hlo.out]),hgo.out _ hwq⟩
    |true=>
     replace hN:=aa (hN.out hFk)
     replace hFk:=aa hFk
     go_wp2_with fail
     refine cR ?_
     repeat (any_goals (first|go_big_quiet_step ((go_at_call 105;with_reducible exact Hv (hX _ _).out))|quiet_step ((go_at_call 105;with_reducible exact Hv (hX _ _).out))))
     refine wpQuiet_nil ?_
     intro wq hwq
     replace hwq:=ac hwq
     go_wp2
     go_roundw
     case rel=>exact ⟨k+1,by omega,by go_num,hN,aa (hgG.out _ hwq)⟩
     case measure=>simp [intOf];omega
   ·have hke:k=l.length:=by omega
    subst hke
    go_wp2
    go_ret
    exact ⟨ad (by rw [hv.out,hcn.out]),hgo.out _ (Hs _ _)⟩
theorem Sl.take {α:Type} {R:CR α} {k:Nat} {w:World} {B:Nat} {A:Option Addr} {xs:List α} (h:Sl k R w B A xs) (n:Nat):Sl k R w B A (xs.take n):=by
 refine ⟨Hw (by rw [HO];omega) h.1,fun i x hx=> ?_⟩
 rw [List.getElem?_take] at hx
 split at hx
 ·exact h.2 i x hx
 ·cases hx
theorem oI (A:Option Addr) (cap:Nat) (xs:List Int) (n:Nat) (w:World) (h:Sl 1 bc w w.heap.size A xs) (hcap:xs.length≤cap):
  Calls prog 49 #[.slice A xs.length cap,.int .i64 (n:Int)] w fun e w'=>e=.returned (.bool (mY xs n))∧Below w.heap.size w w':=by
 have hl:=h.len
 have hv:=aa (show mY xs n=ar (fun i=>aZ (fun x=>dC n x&& !decide (x∈xs.take i)) xs i) xs.length from rfl)
 generalize hF:(fun i:Nat=>aZ (fun x=>dC n x&& !decide (x∈xs.take i)) xs i)=F at hv
 have hI:=aa (fun k y m=>lX A cap (xs.take k) y (w.drewN m) (((h.take k).drewN ah m).more ah (by simp)))
 go_enter func49,ntmps49
 go_wp2
 go_loopw [5] (fun i wr=>∃ k:Nat,k≤xs.length∧i=.int .i64 k∧Hid (ar F k=true)∧∃ m,wr=w.drewN m) (fun i _=>xs.length-(intOf i).toNat)
 case atStart=>exact ⟨0,Hz _,rfl,aa rfl,0,rfl⟩
 case round=>
  obtain ⟨k,hk,rfl,hc,m,rfl⟩:=hrel
  by_cases hlt:k<xs.length
  focus
   obtain ⟨b,o,rfl,hb,hcell⟩:=h.int hlt
   have hkz:(k:Int)<(xs.length:Int):=by omega
   have hkc:(k:Int)≤(cap:Int):=by omega
   have hFk:F k=(dC n xs[k]&& !decide (xs[k]∈xs.take k)):=by rw [←hF];simp only [am _ hlt]
   have hN:=aa (fun (g:F k=true)=>show ar F (k+1)=true from by rw [ar,hc.out,g];rfl)
   have hlo:=aa (fun (g:F k=false)=>show ar F xs.length=false from ba hlt g)
   have hIy:=fun m'=>hI.out k xs[k] (m+m')
   have hlk:(xs.take k).length=k:=by rw [HO];omega
   rw [hlk] at hIy
   clear h hF hI
   generalize xs[k]=x at*
   by_cases c1:x<0
   have d1:decide (x<0)=true:=decide_eq_true c1
   rotate_right
   focus
    have d1:decide (x<0)=false:=decide_eq_false c1
    by_cases c2:(n:Int)≤x
    have d2:decide ((n:Int)≤x)=true:=decide_eq_true c2
    rotate_right
    focus
     have d2:decide ((n:Int)≤x)=false:=decide_eq_false c2
     have hin:dC n x=true:=by unfold dC;simp;omega
     rw [hin,Hx] at hFk
     generalize decide (x∈xs.take k)=z at hFk hIy
     replace hIy:=aa hIy
     cases z with
     |false=>
      replace hN:=aa (hN.out (by rw [hFk];rfl))
      clear hFk hlo
      go_wp2_with fail
      go_quiet ((go_at_call 104;with_reducible exact gh (hIy.out _)))
      go_wp2
      go_roundw
      case rel=>exact ⟨k+1,by omega,by go_num,hN,_,rfl⟩
      case measure=>simp [intOf];omega
     |true=>
      replace hlo:=aa (hlo.out (by rw [hFk];rfl))
      clear hFk hN
      go_wp2_with fail
      go_quiet ((go_at_call 104;with_reducible exact gh (hIy.out _)))
      go_wp2
      go_ret
      exact ⟨ad (by rw [hv.out,hlo.out]),au (au (Hs _ _) _) _⟩
  rotate_right
  focus
   have hke:k=xs.length:=by omega
   subst hke
   go_wp2
   go_ret
   exact ⟨ad (by rw [hv.out,hc.out]),au (Hs _ _) _⟩
  all_goals
   replace hlo:=aa (hlo.out (by rw [hFk,bS (by omega)];rfl))
   clear hFk hN
   go_wp2_with fail
   go_quiet (fail)
   go_wp2
   go_ret
   exact ⟨ad (by rw [hv.out,hlo.out]),au (au (Hs _ _) _) _⟩
theorem sb (A1 A2 A3 A4 A5 A6 A7 A8 A9 A10 A11 A12:Option Addr) (p:Lp) (c1 c2 c3 c4 c5 c6 c7 c8 c9 c10 c11 c12:Nat) (t:fJ) (P1 P2 P3 P4:Option Addr) (d1 d2 d3 d4:Nat) (w:World) (h:cz w w.heap.size A1 A2 A3 A4 A5 A6 A7 A8 A9 A10 A11 A12 p) (h1:Sl 1 pT w w.heap.size P1 t.keys) (h2:Sl 1 B8 w w.heap.size P2 t.kinds) (h3:Sl 1 bc w w.heap.size P3 t.acts) (h4:Sl 2 f8 w w.heap.size P4 t.run.args) (h5:t.acts.length≤d3):
  Calls prog 53 #[.agg (aO A1 A2 A3 A4 A5 A6 A7 A8 A9 A10 A11 A12 p c1 c2 c3 c4 c5 c6 c7 c8 c9 c10 c11 c12),.agg #[.slice P1 t.keys.length d1,.slice P2 t.kinds.length d2,.slice P3 t.acts.length d3,.int .i64 t.run.act,.slice P4 t.run.args.length d4]] w fun e w'=>e=.returned (.bool (mZ p t))∧Below w.heap.size w w':=by
 unfold aO
 obtain ⟨ks,kinds,acts,ra,rg⟩:=t
 simp only at h1 h2 h3 h4 h5 ⊢
 have lt1:=h1.len
 have lt2:=h2.len
 have lt3:=h3.len
 have la:=h.acts.len
 obtain ⟨wz,hwz,hsz,hbz,hcz,-⟩:=af w (aO A1 A2 A3 A4 A5 A6 A7 A8 A9 A10 A11 A12 p c1 c2 c3 c4 c5 c6 c7 c8 c9 c10 c11 c12) 33
 obtain ⟨wa,hwa,hsa,hba,hca,-⟩:=af wz #[.slice P1 ks.length d1,.slice P2 kinds.length d2,.slice P3 acts.length d3,.int .i64 ra,.slice P4 rg.length d4] 88
 have k0:w.heap.size<wz.heap.size:=by omega
 obtain ⟨y0,y1,y2,y3,y4,y5,y6,y7,y8,y9,y10,y11⟩:=aF fun i=>(hba.cell (p:=⟨w.heap.size,i,none⟩) k0).trans (hcz i)
 rw [hsz] at hca
 obtain ⟨x0,x1,x2,x3,x4⟩:=p8 hca
 have hl1:w.heap.size<wa.heap.size:=by omega
 have hl2:w.heap.size+1<wa.heap.size:=by omega
 have hw:Below w.heap.size w wa:=hbz.trans (hba.mono (by omega))
 have hP:=aa ((h.below hw).more (B':=wa.heap.size) hw.size)
 have hK:=aa ((h1.below aV hw).more (B':=wa.heap.size) aV hw.size)
 have hk:=aa ((h2.below cw hw).more (B':=wa.heap.size) cw hw.size)
 have hA:=aa ((h3.below ah hw).more (B':=wa.heap.size) ah hw.size)
 have hG:=aa ((h4.below aq hw).more (B':=wa.heap.size) aq hw.size)
 have hv:=aa (show mZ p ⟨ks,kinds,acts,⟨ra,rg⟩⟩=(decide (1≤ks.length)&&decide (ks.length≤4)&&decide (kinds.length=ks.length)&&decide (1≤acts.length)&&decide (acts.length≤16)&&mY acts p.acts.length&&
  ar (fun i=>aZ (fun c=>(iJ p (-1) c).isSome) ks i&&aZ dS kinds i) ks.length&&decide (gk kinds<2)&&dH p acts ⟨ra,rg⟩) from rfl)
 have hDi:=oI P3 d3 acts p.acts.length wa hA.out h5
 generalize hF:(fun i=>aZ (fun c=>(iJ p (-1) c).isSome) ks i&&aZ dS kinds i)=F at hv
 generalize mY acts p.acts.length=S at hDi hv
 replace hDi:=aa hDi
 replace hw:=aa hw
 replace hsa:=aa hsa
 replace hF:=aa hF
 clear hca hcz hba hbz h h1 h2 h3 h4
 go_enter func53,ntmps53
 by_cases a1:1≤ks.length
 focus
  have a1z:¬(ks.length:Int)<1:=by omega
  rw [decide_eq_true a1,Hx] at hv
  by_cases a2:ks.length≤4
  focus
   have a2z:¬(4:Int)<(ks.length:Int):=by omega
   rw [decide_eq_true a2,Hx] at hv
   by_cases a3:kinds.length=ks.length
   focus
    have a3z:((kinds.length:Int) !=(ks.length:Int))=false:=by rw [a3];exact bne_self_eq_false _
    rw [decide_eq_true a3,Hx] at hv
    replace a3:=aa a3
    by_cases a4:1≤acts.length
    focus
     have a4z:¬(acts.length:Int)<1:=by omega
     rw [decide_eq_true a4,Hx] at hv
     by_cases a5:acts.length≤16
     focus
      have a5z:¬(16:Int)<(acts.length:Int):=by omega
      rw [decide_eq_true a5,Hx] at hv
      cases S with
      |false=>
       rw [Hu,Hu,Hu] at hv
       go_wp2_with (go_at_call 49;refine hDi.out.mono ?_;rintro e w3 ⟨rfl,hb3⟩)
       go_ret
       exact ⟨ad hv.out.symm,hw.out.trans (hb3.mono hw.out.size)⟩
      |true=>
       rw [Hx] at hv
       go_wp2_with (go_at_call 49;refine hDi.out.mono ?_;rintro e w3 ⟨rfl,hb3⟩)
       have hD0:=aa hb3
       clear hb3
       go_loopw [5,6,7,8] (fun s i _ _ wr=>∃ (k n:Nat),k≤ks.length∧i=.int .i64 k∧s=.int .i64 n∧n≤k∧Hid (gk (kinds.take k)=n)∧Hid (ar F k=true)∧Hid (Below wa.heap.size wa wr)) (fun _ i _ _ _=>ks.length-(intOf i).toNat)
       case atStart=>exact ⟨0,0,Hz _,rfl,rfl,Ht _,aa rfl,aa rfl,hD0⟩
       case round=>
        obtain ⟨k,n,hk1,rfl,rfl,hnk,hn,hcn,hI⟩:=hrel
        have kbr:=ae hI.out
        have hzr:=hI.out.size
        have hgo:=aa (fun W (hW:Below wr.heap.size wr W)=>hw.out.trans ((hI.out.trans (hW.mono hzr)).mono hw.out.size))
        have u0:=(kbr.1 _ 0 hl1).trans y0
        have u1:=(kbr.1 _ 1 hl1).trans y1
        have u2:=(kbr.1 _ 2 hl1).trans y2
        have u3:=(kbr.1 _ 3 hl1).trans y3
        have u4:=(kbr.1 _ 4 hl1).trans y4
        have u5:=(kbr.1 _ 5 hl1).trans y5
        have u6:=(kbr.1 _ 6 hl1).trans y6
        have u7:=(kbr.1 _ 7 hl1).trans y7
        have u8:=(kbr.1 _ 8 hl1).trans y8
        have u9:=(kbr.1 _ 9 hl1).trans y9
        have u10:=(kbr.1 _ 10 hl1).trans y10
        have u11:=(kbr.1 _ 11 hl1).trans y11
        have v0:=(kbr.1 _ 0 hl2).trans x0
        by_cases hlt:k<ks.length
        ·have hkz:(k:Int)<(ks.length:Int):=by omega
         have hlt':k<kinds.length:=by rw [a3.out];exact hlt
         have hkz':(k:Int)<(kinds.length:Int):=by omega
         obtain ⟨b,o,A',c',hA1,hb,hcell,hE⟩:=hK.out.code hlt
         subst hA1
         obtain ⟨g,og,hA2,hg,hcell2⟩:=hk.out.byte hlt'
         subst hA2
         have hX:∀ d os,Hid (Calls prog 55 #[.agg (aO A1 A2 A3 A4 A5 A6 A7 A8 A9 A10 A11 A12 p c1 c2 c3 c4 c5 c6 c7 c8 c9 c10 c11 c12),.int .i64 (-1),.slice A' ks[k].length c'] (HG (redrawn wr d) os) _):=fun d os=>aa (fY A1 A2 A3 A4 A5 A6 A7 A8 A9 A10 A11 A12 p c1 c2 c3 c4 c5 c6 c7 c8 c9 c10 c11 c12 (-1) ks[k] A' c' _ ((hP.out.below (aU hI.out hzr d os)).more (Hw hzr (below_regrown wr d os).size)) ((hE.below bm (aU hI.out hzr d os)).more bm (Hw hzr (below_regrown wr d os).size)))
         have hFk:F k=((iJ p (-1) ks[k]).isSome&&dS kinds[k]):=by rw [←hF.out];simp only [am _ hlt,am _ hlt']
         have hp:=mu hlt'
         rw [hn.out] at hp
         have hN:=aa (fun (g:F k=true)=>show ar F (k+1)=true from by rw [ar,hcn.out,g];rfl)
         have hlo:=aa (fun (g:F k=false)=>show ar F ks.length=false from ba hlt g)
         unfold Cc at hX
         generalize ks[k]=ec at hcell hE hX hFk
         generalize iJ p (-1) ec=D at hX hFk
         generalize kinds[k]=x at hcell2 hFk hp
         have n0:=(kbr.1 _ (o+k) hb).trans hcell
         have hgw:=aS (show Below wr.heap.size wr wr from Hs _ _) (Ht _)
         have hB1:=Hr hl1 hzr
         have hB2':=Hr hl2 hzr
         have hB3:=Hr hb hzr
         have g0:=(kbr.1 _ (og+k) hg).trans hcell2
         have v1:=(kbr.1 _ 1 hl2).trans x1
         have hB4:=Hr hg hzr
         clear kbr hcell hcell2 hE
         cases D with
         |none=>
          rw [hlo.out (by rw [hFk];rfl),Hu,Hu] at hv
          replace hFk:=aa hFk
          replace hp:=aa hp
          simp only [Option.getD_none,Option.isSome_none] at hX
          go_wp2_with fail
          refine cR ?_
          repeat (any_goals (first|go_big_quiet_step ((go_at_call 55;with_reducible exact Hv (hX _ _).out))|quiet_step ((go_at_call 55;with_reducible exact Hv (hX _ _).out))))
          refine wpQuiet_nil ?_
          intro wq hwq
          replace hwq:=ac hwq
          go_wp2
          go_ret
          exact ⟨ad hv.out.symm,hgo.out _ hwq⟩
         |some y=>
          simp only [Option.isSome_some,Hx] at hFk
          simp only [If,Option.isSome_some] at hX
          have hgG:=aa (fun W (hW:Below wr.heap.size wr W)=>hI.out.trans (hW.mono hzr))
          by_cases c1:1≤x∧x≤3
          ·obtain ⟨c2,c3⟩:=c1
           replace hN:=aa (hN.out (by rw [hFk];simp [dS,c2,c3]))
           have c2z:¬x<1:=by omega
           have c3z:¬3<x:=by omega
           replace hFk:=aa hFk
           by_cases c4:x=2
           ·subst c4
            rw [if_pos rfl] at hp
            replace hp:=aa hp
            go_wp2_with fail
            refine cR ?_
            repeat (any_goals (first|go_big_quiet_step ((go_at_call 55;with_reducible exact Hv (hX _ _).out))|quiet_step ((go_at_call 55;with_reducible exact Hv (hX _ _).out))))
            refine wpQuiet_nil ?_
            intro wq hwq
            replace hwq:=ac hwq
            have g0q:=(hwq.cell (p:=⟨g,og+k,none⟩) hB4).trans g0
            have v1q:=(hwq.cell (p:=⟨w.heap.size+1,1,none⟩) hB2').trans v1
            have hwQ:=aa (hgG.out _ hwq)
            clear g0 v1 hwq u0 u1 u2 u3 u4 u5 u6 u7 u8 u9 u10 u11 v0 n0 hX hgw
            go_wp2
            go_roundw
            case rel=>exact ⟨k+1,n+1,by omega,by go_num,by go_num,by omega,hp,hN,hwQ⟩
            case measure=>simp [intOf];omega
           ·have c4z:(x==2)=false:=beq_eq_false_iff_ne.2 c4
            rw [if_neg c4,Nat.add_zero] at hp
            replace hp:=aa hp
            go_wp2_with fail
            refine cR ?_
            repeat (any_goals (first|go_big_quiet_step ((go_at_call 55;with_reducible exact Hv (hX _ _).out))|quiet_step ((go_at_call 55;with_reducible exact Hv (hX _ _).out))))
            refine wpQuiet_nil ?_
            intro wq hwq
            replace hwq:=ac hwq
            have g0q:=(hwq.cell (p:=⟨g,og+k,none⟩) hB4).trans g0
            have v1q:=(hwq.cell (p:=⟨w.heap.size+1,1,none⟩) hB2').trans v1
            have hwQ:=aa (hgG.out _ hwq)
            clear g0 v1 hwq u0 u1 u2 u3 u4 u5 u6 u7 u8 u9 u10 u11 v0 n0 hX hgw
            go_wp2
            go_roundw
            case rel=>exact ⟨k+1,n,by omega,by go_num,rfl,by omega,hp,hN,hwQ⟩
            case measure=>simp [intOf];omega
          ·rw [hlo.out (by rw [hFk];simp only [dS,Ib,decide_eq_false_iff_not];omega),Hu,Hu] at hv
           replace hFk:=aa hFk
           replace hp:=aa hp
           go_wp2_with fail
           refine cR ?_
           repeat (any_goals (first|go_big_quiet_step ((go_at_call 55;with_reducible exact Hv (hX _ _).out))|quiet_step ((go_at_call 55;with_reducible exact Hv (hX _ _).out))))
           refine wpQuiet_nil ?_
           intro wq hwq
           replace hwq:=ac hwq
           have g0q:=(hwq.cell (p:=⟨g,og+k,none⟩) hB4).trans g0
           have v1q:=(hwq.cell (p:=⟨w.heap.size+1,1,none⟩) hB2').trans v1
           have hwQ:=aa (hgo.out _ hwq)
           clear g0 v1 hwq u0 u1 u2 u3 u4 u5 u6 u7 u8 u9 u10 u11 v0 n0 hX hgw
           by_cases c2:x<1
           ·go_wp2
            go_ret
            exact ⟨ad hv.out.symm,hwQ.out⟩
           ·have c3:3<x:=by omega
            go_wp2
            go_ret
            exact ⟨ad hv.out.symm,hwQ.out⟩
        ·have hke:k=ks.length:=by omega
         subst hke
         rw [←a3.out,H7] at hn
         rw [hcn.out,hn.out,Hx] at hv
         have hlr:Below wa.heap.size wa wr:=hI.out
         have hR:=jV A1 A2 A3 A4 A5 A6 A7 A8 A9 A10 A11 A12 p c1 c2 c3 c4 c5 c6 c7 c8 c9 c10 c11 c12 P3 P4 d3 d4 acts ⟨ra,rg⟩ wr ((hP.out.below hlr).more hzr) ((hA.out.below ah hlr).more ah hzr) ((hG.out.below aq hlr).more aq hzr)
         simp only at hR
         generalize dH p acts ⟨ra,rg⟩=R at hR hv
         replace hR:=aa hR
         have v2:=(kbr.1 _ 2 hl2).trans x2
         have v3:=(kbr.1 _ 3 hl2).trans x3
         have v4:=(kbr.1 _ 4 hl2).trans x4
         clear kbr hlr
         by_cases b1:n<2
         ·have b1z:(n:Int)<2:=by omega
          rw [decide_eq_true b1,Hx] at hv
          go_wp2_with (go_at_call 54;refine hR.out.mono ?_;rintro e w5 ⟨rfl,hb5⟩)
          go_ret
          exact ⟨ad hv.out.symm,hgo.out _ hb5⟩
         ·have b1z:¬(n:Int)<2:=by omega
          rw [decide_eq_false b1,Hu] at hv
          go_wp2
          go_ret
          exact ⟨ad hv.out.symm,hgo.out _ (Hs _ _)⟩
     rotate_right
     have a5z:(16:Int)<(acts.length:Int):=by omega
     rw [decide_eq_false a5,Hu,Hu,Hu,Hu] at hv
    rotate_right
    have a4z:(acts.length:Int)<1:=by omega
    rw [decide_eq_false a4,Hu,Hu,Hu,Hu,Hu] at hv
   rotate_right
   have a3z:((kinds.length:Int) !=(ks.length:Int))=true:=by rw [bne_iff_ne];omega
   rw [decide_eq_false a3,Hu,Hu,Hu,Hu,Hu,Hu] at hv
   replace a3:=aa a3
  rotate_right
  have a2z:(4:Int)<(ks.length:Int):=by omega
  rw [decide_eq_false a2,Hu,Hu,Hu,Hu,Hu,Hu,Hu] at hv
 rotate_right
 have a1z:(ks.length:Int)<1:=by omega
 rw [decide_eq_false a1,Hu,Hu,Hu,Hu,Hu,Hu,Hu,Hu] at hv
 all_goals
  go_wp2
  go_ret
  exact ⟨ad hv.out.symm,hw.out⟩
section
def Ap (u v:Value):Prop:=∀ g,u.ownBlock=some g→v.ownBlock≠some g
theorem Ap.symm {u v:Value} (h:Ap u v):Ap v u:=fun g h1 h2=>h g h2 h1
theorem Ap.nil_ (v:Value):Ap v (.slice none 0 0):=fun g _ h=>by simp [Value.ownBlock] at h
theorem Ap.nil_l (v:Value):Ap (.slice none 0 0) v:=(Ap.nil_ v).symm
theorem Ap.of_lt {w w':World} {base base':Nat} {u v:Value} {l m:List Int} (hu:ci w base u l) (hv:ci w' base' v m) (h:w.heap.size≤base'):Ap u v:=fun g h1 h2=>by
 have a:=(World.ownsRow.lt hu g h1).2
 have b:=(World.ownsRow.lt hv g h2).1
 omega
theorem jk {W:World} {base:Nat} {v:Value} {l:List Int} (x:Int) (hd:ci W base v l) (hb:base≤W.heap.size) (hz:l.length≤dX):
  ∃ v' w',(eh #[23,23] 23 #[v,.slice (some ⟨W.heap.size,0,none⟩) 1 1]).run prog (W.alloc (.cells #[.int .i64 x] 3))=.ok v' w'∧ci w' base v' (l++ [x])∧Below base W w'∧∀ u m,ci W base u m→Ap u v→ci w' base u m∧Ap u v':=by
 unfold dX at hz
 obtain ⟨ii,hii,hzi0,hzi1,hzi2⟩:=info_parts lR
 obtain ⟨v',w',hrun,h2,h3,_,h5⟩:=run_append_own_at (P:=prog) (W.alloc (.cells #[.int .i64 x] 3)) base 23 23 3 ii (.int .i64 0) 1 8 underlying23 hii hzi0 hzi1 hzi2 rfl (by omega) v l.length _ (World.ownsRow.alloc hd _) ⟨W.heap.size,0,none⟩ 1 1 [.int .i64 x] rfl (World.news_of_block (cs:=#[.int .i64 x]) (t:=3) (fr:=(0,0)) (heap_alloc_new W _)) (qA [x]) (by unfold maxLen;omega) (by omega) (by simp;omega)
 refine ⟨v',w',hrun,by unfold ci;simpa using h2,(((Hs _ _).alloc hb _).grown h3 (by simp;omega) (fun g e=>(hd.lt g e).1)),fun u m hu ha=>⟨?_,fun g h1 h2'=> ?_⟩⟩
 ·have h4:(W.alloc (.cells #[.int .i64 x] 3)).ownsRow base 3 1 u m.length (m.map (Value.int .i64)):=World.ownsRow.alloc hu _
  refine World.ownsRow.kept h4 h3 ?_
  cases hg:u.ownBlock with
  |none=>exact .inl rfl
  |some g=>exact .inr fun e=>ha g hg e.symm
 ·have hlt:=(World.ownsRow.lt hu g h1).2
  rcases h5 with h5|h5
  ·exact ha g h1 (by rw [←h5];exact h2')
  ·rw [h5] at h2'
   simp at h2'
   omega
theorem ci.addr {w:World} {base:Nat} {A:Option Addr} {n cap:Nat} {l:List Int} (h:ci w base (.slice A n cap) l) (hl:0<l.length):∃ b,A=some ⟨b,0,none⟩:=by
 rcases h.2 with ⟨_,hz⟩|⟨g,cap',cur,e,_⟩
 ·omega
 ·injection e with e1 e2 e3
  exact ⟨g,e1⟩
theorem ci.cell {w:World} {base b:Nat} {n cap:Nat} {l:List Int} (h:ci w base (.slice (some ⟨b,0,none⟩) n cap) l) {i:Nat} (hi:i<l.length):w.cell? ⟨b,i,none⟩=some (.int .i64 l[i])∧b<w.heap.size:=by
 obtain ⟨A,cap',e,hs⟩:=h.sl
 injection e with e1 e2 e3
 subst e1
 obtain ⟨b',o',e,hb,hc⟩:=hs.int hi
 injection e with e
 injection e with e1 e2 e3
 subst e1 e2
 simp only [H3] at hc
 exact ⟨hc,hb⟩
attribute [local go_sem ↓] cH
structure Sb (n:Nat) (S:List Int):Prop where
 nodup:S.Nodup
 mem:∀ t∈S,0≤t∧t<n
theorem Sb.len {n:Nat} {S:List Int} (h:Sb n S):S.length≤n:=jr h.nodup h.mem
theorem Sb.add {n:Nat} {S:List Int} (h:Sb n S) {t:Int} (h0:0≤t) (h1:t<n) (hn:t∉S):Sb n (S++ [t]):=
 ⟨by rw [List.nodup_append];exact ⟨h.nodup,by simp,fun a ha b hb=>by simp at hb;subst hb;exact fun e=>hn (e ▸ ha)⟩,fun u hu=>by
  rcases HZ.1 hu with hu|hu
  ·exact h.mem u hu
  ·simp at hu;subst hu;exact ⟨h0,h1⟩⟩
def BD:Value→Nat
 | .slice _ n _=>n
 |_=>0
structure Di (w wx:World) (g:Nat) (A2 A3:Option Addr) (n2 c2 n3 c3:Nat) (tt:Int):Prop where
 below:Below w.heap.size w wx
 low:w.heap.size≤g
 high:g<wx.heap.size
 keys:wx.cell? ⟨g,1,none⟩=some (.slice A2 n2 c2)
 brs:wx.cell? ⟨g,2,none⟩=some (.slice A3 n3 c3)
 tto:wx.cell? ⟨g,3,none⟩=some (.int .i64 tt)
theorem Di.new (w:World) (A1 A2 A3:Option Addr) (n1 c1 n2 c2 n3 c3:Nat) (tt:Int):Di w ((w.alloc (.cells #[.slice A1 n1 c1,.slice A2 n2 c2,.slice A3 n3 c3,.int .i64 tt] 79)).drew) w.heap.size A2 A3 n2 c2 n3 c3 tt:=by
 have hc:∀ i,(w.alloc (.cells #[.slice A1 n1 c1,.slice A2 n2 c2,.slice A3 n3 c3,.int .i64 tt] 79)).drew.cell? ⟨w.heap.size,i,none⟩=(#[.slice A1 n1 c1,.slice A2 n2 c2,.slice A3 n3 c3,.int .i64 tt]:Array Value)[i]? :=fun _=>World.cell?_alloc_at _ _ _ _ rfl
 exact ⟨((Hs _ _).alloc (Ht _) _).drew,Ht _,by simp [World.drew],hc 1,hc 2,hc 3⟩
theorem sd (A1 A2 A3 A4 A5 A6 A7 A8 A9 A10 A11 A12:Option Addr) (p:Lp) (c1 c2 c3 c4 c5 c6 c7 c8 c9 c10 c11 c12:Nat) (s:Nat) (w:World) (h:cz w w.heap.size A1 A2 A3 A4 A5 A6 A7 A8 A9 A10 A11 A12 p) (hs:s<p.steps.length) (hg:∀ i,∀ t∈bf p.steps i,t<p.steps.length) (hbr:∀ x∈p.steps,x.brs.length≤1000) (h16:p.steps.length≤16):
  Calls prog 52 #[.agg (aO A1 A2 A3 A4 A5 A6 A7 A8 A9 A10 A11 A12 p c1 c2 c3 c4 c5 c6 c7 c8 c9 c10 c11 c12),.int .i64 (s:Int)] w fun e w'=>e=.returned (.bool (m6 p.steps s))∧Below w.heap.size w w':=by
 unfold aO
 have l3:=h.steps.len
 obtain ⟨wz,hwz,hsz,hbz,hcz,-⟩:=af w (aO A1 A2 A3 A4 A5 A6 A7 A8 A9 A10 A11 A12 p c1 c2 c3 c4 c5 c6 c7 c8 c9 c10 c11 c12) 33
 have hl1:w.heap.size<wz.heap.size:=by omega
 obtain ⟨-,-,y2,-,-,-,-,-,-,-,-,-⟩:=aF hcz
 have hSt:=aa ((h.below hbz).more (B':=wz.heap.size) hbz.size).steps
 have hgo:=aa (fun W (hW:Below wz.heap.size wz W)=>hbz.trans (hW.mono hbz.size))
 have hv:=aa (show m6 p.steps s=yz (bf p.steps) s (p.steps.length+1) [] [(s:Int)] from rfl)
 generalize m6 p.steps s=RES at hv ⊢
 replace hsz:=aa hsz
 clear hcz hbz h
 have hg':=aa hg
 have hbr':=aa hbr
 clear hg hbr
 obtain ⟨w1,hw1,hs1,hb1,hc1,-⟩:=af wz #[.int .i64 (s:Int)] 3
 have hI1:ci w1 wz.heap.size (.slice (some ⟨wz.heap.size,0,none⟩) 1 1) [(s:Int)]:=⟨rfl,.inr ⟨wz.heap.size,1,#[.int .i64 (s:Int)],rfl,Ht _,by rw [←hw1];exact heap_alloc_new wz _,Ht _,by decide,rfl,rfl⟩⟩
 replace hI1:=aa hI1
 replace hb1:=aa hb1
 replace hs1:=aa hs1
 clear hc1
 go_enter func52,ntmps52
 go_wp2
 go_loopw [5,6,7,8,9,10,11,12] (fun sv nv _ _ _ _ _ _ wr=>∃ (f:Nat) (S N:List Int) (As An:Option Addr) (cs cn:Nat),sv=.slice As S.length cs∧nv=.slice An N.length cn∧Hid (yz (bf p.steps) s f S N=RES)∧Hid (N= []∨p.steps.length+1≤S.length+f)∧Hid (Sb p.steps.length S)∧Hid (∀ t∈N,0≤t∧t<p.steps.length)∧Hid (ci wr wz.heap.size (.slice As S.length cs) S)∧Hid (ci wr wz.heap.size (.slice An N.length cn) N)∧Hid (Ap (.slice As S.length cs) (.slice An N.length cn))∧Hid (Below wz.heap.size wz wr)) (fun sv nv _ _ _ _ _ _ _=>2*(p.steps.length+1-BD sv)+min 1 (BD nv))
 case atStart=>exact ⟨p.steps.length+1,[],[(s:Int)],none,some ⟨wz.heap.size,0,none⟩,0,1,rfl,rfl,aa hv.out.symm,aa (.inr (by simp)),aa ⟨List.nodup_nil,fun t h=>by simp at h⟩,aa (fun t h=>by simp at h;subst h;exact ⟨by omega,by omega⟩),aa (ci.nil_ _ _),hI1,aa (Ap.nil_l _),hb1⟩
 case round=>
  obtain ⟨f,S,N,As,An,cs,cn,rfl,rfl,hR,hF,hS,hN,hIs,hIn,hap,hG⟩:=hrel
  by_cases hne:N.length=0
  ·have hnz:¬(0:Int)<(N.length:Int):=by omega
   have hf:RES=false:=by rw [←hR.out,Ie hne];cases f<;>rfl
   replace hf:=aa hf
   replace hne:=aa hne
   go_wp2
   go_ret
   exact ⟨ad hf.out.symm,hgo.out _ hG.out⟩
  ·have hnz:(0:Int)<(N.length:Int):=by omega
   have hN0:N≠ []:=fun e=>hne (by rw [e];rfl)
   have hnp:0<N.length:=by omega
   have hSl:=hS.out.len
   obtain ⟨f',rfl⟩:∃ f',f=f'+1:=⟨f-1,by rcases hF.out with h|h;exact absurd h hN0;omega⟩
   have hF':p.steps.length+1≤S.length+(f'+1):=by rcases hF.out with h|h;exact absurd h hN0;exact h
   have hR':(match uA (bf p.steps) s S [] N with
    |none=>true
    |some r=>yz (bf p.steps) s f' r.1 r.2)=RES:=by
    rw [←hR.out]
    cases N with
    |nil=>exact absurd rfl hN0
    |cons a b=>rfl
   replace hR':=aa hR'
   clear hR hF
   go_wp2
   go_loopw [5,7,8,9,10,11,12] (fun sv xv iv _ _ _ _ wr=>∃ (i:Nat) (S' X:List Int) (As Ax:Option Addr) (cs cx:Nat),i≤N.length∧iv=.int .i64 i∧sv=.slice As S'.length cs∧xv=.slice Ax X.length cx∧Hid (uA (bf p.steps) s S' X (N.drop i)=uA (bf p.steps) s S [] N)∧Hid (S'.length=S.length+X.length)∧Hid (Sb p.steps.length S')∧Hid (∀ t∈X,0≤t∧t<p.steps.length)∧Hid (ci wr wz.heap.size (.slice As S'.length cs) S')∧Hid (ci wr wz.heap.size (.slice An N.length cn) N)∧Hid (ci wr wz.heap.size (.slice Ax X.length cx) X)∧Hid (Ap (.slice An N.length cn) (.slice As S'.length cs)∧Ap (.slice Ax X.length cx) (.slice As S'.length cs)∧Ap (.slice An N.length cn) (.slice Ax X.length cx))∧Hid (Below wz.heap.size wz wr)) (fun _ _ iv _ _ _ _ _=>N.length-(intOf iv).toNat)
   case atStart=>exact ⟨0,S,[],As,none,cs,0,Hz _,rfl,rfl,rfl,aa rfl,aa rfl,hS,aa (fun t h=>by simp at h),hIs,hIn,aa (ci.nil_ _ _),aa ⟨hap.out.symm,Ap.nil_l _,Ap.nil_ _⟩,hG⟩
   case round=>
    obtain ⟨i,S',X,As',Ax,cs',cx,hi,rfl,rfl,rfl,hP,hSX,hS',hX,hIs',hIn',hIx,hap',hG'⟩:=hrel
    have hzr:=hG'.out.size
    by_cases hlt:i<N.length
    ·have hiz:(i:Int)<(N.length:Int):=by omega
     have hmem:=hN.out N[i] (HE hlt)
     have hdr:=aa (show N.drop i=N[i]::N.drop (i+1) from Iu hlt)
     obtain ⟨A',cap',e,hSlN⟩:=hIn'.out.sl
     injection e with ea eb ec
     subst ea ec
     obtain ⟨b,o,hA,hb,hcell⟩:=hSlN.int hlt
     have lN:N.length≤9223372036854775807:=hSlN.len
     subst hA
     generalize hx0:N[i]=x0 at hmem hdr hcell
     obtain ⟨hx1,hx2⟩:=hmem
     obtain ⟨k,rfl⟩:=HH hx1
     have hk:k<p.steps.length:=by omega
     have hkz:(k:Int)<(p.steps.length:Int):=by omega
     obtain ⟨g,og,B1,B2,B3,d1,d2,d3,hA3,hgl,e0,e1,e2,e3,-,hKs,hBs,-⟩:=hSt.out.stp hk
     subst hA3
     have kbr:=ae hG'.out
     have q2:=(kbr.1 _ 2 hl1).trans y2
     have f0:=(kbr.1 _ (og+k*4) hgl).trans e0
     have f1:=(kbr.1 _ (og+k*4+1) hgl).trans e1
     have f2:=(kbr.1 _ (og+k*4+2) hgl).trans e2
     have f3:=(kbr.1 _ (og+k*4+3) hgl).trans e3
     have hB4:=Hr hl1 hzr
     have hB5:=Hr hgl hzr
     have hgr:=aa (mo hk)
     have hbrk:=hbr'.out p.steps[k] (HE hk)
     generalize p.steps[k]=st at e0 e1 e2 e3 f0 f1 f2 f3 hKs hBs hgr hbrk
     obtain ⟨tks,ks,bs,tt⟩:=st
     simp only at e0 e1 e2 e3 f0 f1 f2 f3 hKs hBs hgr hbrk
     have lk1:=hKs.len
     have lk2:=hBs.len
     replace hSlN:=aa hSlN
     clear kbr
     go_upto_region 8 with fail
     go_cut [9,17] from 18 to 96 (fun sp lv wx=>∃ gb,sp=.pointer (some ⟨gb,0,none⟩)∧lv=.bool true∧Hid (Di wr wx gb B2 B3 ks.length d2 bs.length d3 tt))
     case first=>
      go_wp2_with fail
      go_region
      all_goals go_wp2
      all_goals go_meet
      all_goals exact ⟨wr.heap.size,rfl,rfl,aa (Di.new _ _ _ _ _ _ _ _ _ _ _)⟩
     case rest=>
      obtain ⟨gb,rfl,rfl,hSB⟩:=hcut
      obtain ⟨w8,rfl⟩:∃ w8:World,w8=wc:=⟨_,rfl⟩
      have hs8:=hSB.out.below.size
      have z1:=hSB.out.keys
      have z2:=hSB.out.brs
      have z3:=hSB.out.tto
      have zl:=hSB.out.low
      have zh:=hSB.out.high
      have hG8:=aa (hG'.out.trans (hSB.out.below.mono hzr))
      have hIs8:=aa (hIs'.out.below hSB.out.below (Ht _))
      have hIn8:=aa (hIn'.out.below hSB.out.below (Ht _))
      have hIx8:=aa (hIx.out.below hSB.out.below (Ht _))
      clear f0 f1 f2 f3 q2 hSB
      have hT:=aa (show iM ⟨tks,ks,bs,tt⟩=(if ks.length=0 then [tt] else [])++bs.map Br.to from rfl)
      obtain ⟨w9,hw9,hs9,hb9,hc9,-⟩:=af w8 #[.int .i64 tt] 3
      clear hc9
      have hb8':=aa (au (Hs w8.heap.size w8) 0)
      obtain ⟨va,wa,hra,hIa,hBa,-⟩:=jk tt (ci.nil_ w8 w8.heap.size) (Ht _) (by decide)
      rw [hw9] at hra
      obtain ⟨Aa,ca,rfl⟩:=hIa.form
      simp only [List.nil_append,HN,List.length_nil,H3] at hra hIa
      replace hIa:=aa hIa
      replace hBa:=aa hBa
      replace hs9:=aa hs9
      replace hb9:=aa hb9
      go_upto_if 35 with fail
      go_cut [10,17] from 18 to 96 (fun v lv wx=>∃ B cp,v=.slice B (if ks.length=0 then [tt] else []).length cp∧lv=.bool true∧Hid (ci wx w8.heap.size (.slice B (if ks.length=0 then [tt] else []).length cp) (if ks.length=0 then [tt] else []))∧Hid (Below w8.heap.size w8 wx))
      case first=>
       by_cases h0:ks.length=0
       ·have h0z:((ks.length:Int)==0)=true:=by rw [beq_iff_eq];omega
        replace h0:=aa h0
        go_wp2
        go_meet
        simp only [if_pos h0.out]
        exact ⟨Aa,ca,rfl,trivial,hIa,hBa⟩
       ·have h0z:((ks.length:Int)==0)=false:=by rw [beq_eq_false_iff_ne];omega
        replace h0:=aa h0
        go_wp2
        go_meet
        simp only [if_neg h0.out]
        exact ⟨none,0,rfl,trivial,aa (ci.nil_ _ _),aa (Hs _ _)⟩
      case rest=>
       obtain ⟨B,cp,rfl,rfl,hI0,hBw⟩:=hcut
       have hT1:(if ks.length=0 then [tt] else []).length≤1:=by split<;>simp
       generalize (if ks.length=0 then [tt] else [])=T0 at hI0 hT hT1 ⊢
       clear hra hIa hBa
       go_wp2
       go_loopw [10,11] (fun v j wr=>∃ (j':Nat) (T:List Int) (B:Option Addr) (cp:Nat),j'≤bs.length∧j=.int .i64 j'∧v=.slice B T.length cp∧Hid (T=T0++(bs.take j').map Br.to)∧Hid (ci wr w8.heap.size (.slice B T.length cp) T)∧Hid (Below w8.heap.size w8 wr)) (fun _ j _=>bs.length-(intOf j).toNat)
       case atStart=>exact ⟨0,T0,B,cp,Hz _,rfl,rfl,aa (by simp),hI0,hBw⟩
       case round=>
        obtain ⟨j,T,B,cp,hj,rfl,rfl,hTj,hI,hbw⟩:=hrel
        have hzw:=hbw.out.size
        have kbw:=ae hbw.out
        have t2:=(kbw.1 _ 2 zh).trans z2
        have zhr:=Hr zh hzw
        have hTl:T.length≤1001:=by rw [hTj.out];simp;omega
        by_cases hlt2:j<bs.length
        ·have hjz:(j:Int)<(bs.length:Int):=by omega
         obtain ⟨gr,ogr,PA,pc,hA4,hgrl,m0,m1,-⟩:=hBs.br hlt2
         subst hA4
         have hkr:gr<w8.heap.size:=by have:=hG8.out.size;omega
         have m1r:=(kbw.1 _ (ogr+j*2+1) hkr).trans ((hG8.out.cell (p:=⟨gr,ogr+j*2+1,none⟩) hgrl).trans m1)
         have hst:=aa (show T0++(bs.take (j+1)).map Br.to=T++ [bs[j].to] from by rw [hTj.out,H9 hlt2,List.map_append,List.append_assoc];rfl)
         generalize bs[j]=x at m1 m1r hst
         obtain ⟨pats,bt⟩:=x
         simp only at m1r hst
         obtain ⟨v',w',hr,hI',hB',-⟩:=jk bt hI.out hzw (by unfold dX;omega)
         obtain ⟨Au,cu,rfl⟩:=hI'.form
         rw [←hst.out] at hI' hr
         obtain ⟨T',hT'⟩:∃ T',T'=T0++(bs.take (j+1)).map Br.to:=⟨_,rfl⟩
         rw [←hT'] at hI' hr
         replace hT':=aa hT'
         have hN':=aa (hbw.out.trans hB')
         replace hI':=aa hI'
         clear hB' hst m1 kbw
         go_wp2
         go_roundw
         case rel=>exact ⟨j+1,T',Au,cu,by omega,by go_num,rfl,hT',hI',hN'⟩
         case measure=>simp [intOf];omega
        ·have hje:j=bs.length:=by omega
         subst hje
         obtain ⟨w10,rfl⟩:∃ w10:World,w10=wr:=⟨_,rfl⟩
         rw [H7] at hTj
         have hTg:T=bf p.steps (k:Int):=by rw [hgr.out,hT.out,hTj.out]
         have hTm:=aa (fun t (ht:t∈T)=>hg'.out (k:Int) t (by rw [←hTg];exact ht))
         have hPk:=aa (show uA (bf p.steps) s S' X (N.drop i)=(match j7 s S' X T with
          |none=>none
          |some r=>uA (bf p.steps) s r.1 r.2 (N.drop (i+1))) from by rw [hdr.out,hTg];rfl)
         have hG10:=aa (hG8.out.trans (hbw.out.mono hG8.out.size))
         have hz10:=hG10.out.size
         have hIs10:=aa (hIs8.out.below hbw.out (Ht _))
         have hIn10:=aa (hIn8.out.below hbw.out (Ht _))
         have hIx10:=aa (hIx8.out.below hbw.out (Ht _))
         have hap10:=aa (show Ap (.slice B T.length cp) (.slice As' S'.length cs')∧Ap (.slice B T.length cp) (.slice Ax X.length cx) from ⟨(Ap.of_lt hIs8.out hI.out (Ht _)).symm,(Ap.of_lt hIx8.out hI.out (Ht _)).symm⟩)
         have hIt10:=aa (hI.out.mono hG8.out.size)
         have hNl:=aa hi
         clear hTg z1 z2 z3 zl kbw hI hbw hBw hI0 hTj hT hgr hdr hIs8 hIn8 hIx8 hIs' hIn' hIx hw9 hs9 hb9 hb8' hs8 e0 e1 e2 e3 hcell hSlN hKs hBs hG8
         go_wp2
         clear t2 zh zhr
         go_loopw [5,7,12] (fun sv xv mv wr=>∃ (m:Nat) (S2 X2:List Int) (As2 Ax2:Option Addr) (cs2 cx2:Nat),m≤T.length∧mv=.int .i64 m∧sv=.slice As2 S2.length cs2∧xv=.slice Ax2 X2.length cx2∧Hid (j7 s S2 X2 (T.drop m)=j7 s S' X T)∧Hid (S2.length=S.length+X2.length)∧Hid (Sb p.steps.length S2)∧Hid (∀ t∈X2,0≤t∧t<p.steps.length)∧Hid (ci wr wz.heap.size (.slice As2 S2.length cs2) S2)∧Hid (ci wr wz.heap.size (.slice (some ⟨b,o,none⟩) N.length cn) N)∧Hid (ci wr wz.heap.size (.slice Ax2 X2.length cx2) X2)∧Hid (ci wr wz.heap.size (.slice B T.length cp) T)∧Hid (Ap (.slice (some ⟨b,o,none⟩) N.length cn) (.slice As2 S2.length cs2)∧Ap (.slice Ax2 X2.length cx2) (.slice As2 S2.length cs2)∧Ap (.slice (some ⟨b,o,none⟩) N.length cn) (.slice Ax2 X2.length cx2)∧Ap (.slice B T.length cp) (.slice As2 S2.length cs2)∧Ap (.slice B T.length cp) (.slice Ax2 X2.length cx2))∧Hid (Below wz.heap.size wz wr)) (fun _ _ mv _=>T.length-(intOf mv).toNat)
         case atStart=>exact ⟨0,S',X,As',Ax,cs',cx,Hz _,rfl,rfl,rfl,aa rfl,hSX,hS',hX,hIs10,hIn10,hIx10,hIt10,aa ⟨hap'.out.1,hap'.out.2.1,hap'.out.2.2,hap10.out.1,hap10.out.2⟩,hG10⟩
         case round=>
          obtain ⟨m,S2,X2,As2,Ax2,cs2,cx2,hm,rfl,rfl,rfl,hP2,hS2X,hSb2,hX2,hJs,hJn,hJx,hJt,hapj,hGj⟩:=hrel
          have hzj:=hGj.out.size
          by_cases hlt3:m<T.length
          ·have hmz:(m:Int)<(T.length:Int):=by omega
           have hdm:=aa (show T.drop m=T[m]::T.drop (m+1) from Iu hlt3)
           have htn:=hTm.out T[m] (HE hlt3)
           obtain ⟨bT,hBT⟩:=hJt.out.addr (by omega)
           subst hBT
           obtain ⟨hcT,hbT⟩:=hJt.out.cell hlt3
           generalize htv:T[m]=t at htn hcT hdm
           have hstep:=aa (show j7 s S2 X2 (t::T.drop (m+1))=j7 s S' X T from by rw [←hdm.out];exact hP2.out)
           clear hP2 hdm
           by_cases t1:t=(s:Int)
           ·have hf:RES=true:=by
             have e1:j7 s S' X T=none:=by rw [←hstep.out,j7,if_pos t1]
             have e2:=hR'.out
             rw [←hP.out,hPk.out,e1] at e2
             exact e2.symm
            have t1z:(t==(s:Int))=true:=by simpa using t1
            replace hf:=aa hf
            replace t1:=aa t1
            go_wp2
            go_ret
            exact ⟨ad hf.out.symm,hgo.out _ hGj.out⟩
           ·have t1z:(t==(s:Int))=false:=by simpa using t1
            by_cases t2:0≤t
            ·obtain ⟨AS,cS,eS,hSlS⟩:=hJs.out.sl
             injection eS with eS1 eS2 eS3
             subst eS1 eS3
             have hin:=lX As2 cs2 S2 t wr hSlS
             by_cases t3:t∈S2
             ·rw [decide_eq_true t3] at hin
              have hnx:=aa (show j7 s S2 X2 (T.drop (m+1))=j7 s S' X T from by rw [←hstep.out,j7,if_neg t1,if_neg (fun e=>e.2 t3)])
              replace hin:=aa hin
              clear hSlS
              go_wp2_with (go_at_call 104;refine hin.out.mono ?_;rintro e w' ⟨rfl,rfl⟩)
              go_roundw
              case rel=>exact ⟨m+1,S2,X2,As2,Ax2,cs2,cx2,by omega,by go_num,rfl,rfl,hnx,hS2X,hSb2,hX2,hJs,hJn,hJx,hJt,hapj,hGj⟩
              case measure=>simp [intOf];omega
             ·rw [decide_eq_false t3] at hin
              have hnx:=aa (show j7 s (S2++ [t]) (X2++ [t]) (T.drop (m+1))=j7 s S' X T from by rw [←hstep.out,j7,if_neg t1,if_pos ⟨t2,t3⟩])
              have hsb:=aa (hSb2.out.add t2 htn t3)
              have hSl2:=hSb2.out.len
              have hXl:=hS2X.out
              have hxb:=aa (show ∀ u∈X2++ [t],0≤u∧u<(p.steps.length:Int) from fun u hu=>by
               rcases HZ.1 hu with hu|hu
               ·exact hX2.out u hu
               ·simp at hu;subst hu;exact ⟨t2,htn⟩)
              have hsl3:=aa (show (S2++ [t]).length=S.length+(X2++ [t]).length from by simp only [HM,HN,List.length_nil];omega)
              obtain ⟨p1,p2,p3,p4,p5⟩:=hapj.out
              obtain ⟨v1,w11,hr1,hI1',hB1',hk1⟩:=jk t hJs.out hzj (by unfold dX;omega)
              obtain ⟨Au,cu,rfl⟩:=hI1'.form
              obtain ⟨j1,q1⟩:=hk1 _ _ hJn.out p1
              obtain ⟨j2,q2⟩:=hk1 _ _ hJx.out p2
              obtain ⟨j3,q3⟩:=hk1 _ _ hJt.out p4
              have hz11:=Hw hzj hB1'.size
              obtain ⟨v2,w12,hr2,hI2',hB2',hk2⟩:=jk t j2 hz11 (by unfold dX;omega)
              obtain ⟨Av,cv,rfl⟩:=hI2'.form
              obtain ⟨r1,o1⟩:=hk2 _ _ j1 p3
              obtain ⟨r2,o2⟩:=hk2 _ _ hI1' q2.symm
              obtain ⟨r3,o3⟩:=hk2 _ _ j3 p5
              obtain ⟨hcT1,hbT1⟩:=j3.cell hlt3
              rw [htv] at hcT1
              obtain ⟨S3,hS3⟩:∃ S3,S3=S2++ [t]:=⟨_,rfl⟩
              obtain ⟨X3,hX3⟩:∃ X3,X3=X2++ [t]:=⟨_,rfl⟩
              rw [←hS3] at hr1 hnx hsb hsl3 q1 q2 q3 hI1' r2 o2
              rw [←hX3] at hr2 hnx hxb hsl3 hI2' o1 o2 o3
              have hfin:=aa (show Ap (.slice (some ⟨b,o,none⟩) N.length cn) (.slice Au S3.length cu)∧Ap (.slice Av X3.length cv) (.slice Au S3.length cu)∧Ap (.slice (some ⟨b,o,none⟩) N.length cn) (.slice Av X3.length cv)∧Ap (.slice (some ⟨bT,0,none⟩) T.length cp) (.slice Au S3.length cu)∧Ap (.slice (some ⟨bT,0,none⟩) T.length cp) (.slice Av X3.length cv) from ⟨q1,o2.symm,o1,q3,o3⟩)
              have hGf:=aa (hGj.out.trans (hB1'.trans hB2'))
              clear hXl
              replace r1:=aa r1
              replace r2:=aa r2
              replace r3:=aa r3
              replace hI2':=aa hI2'
              replace hin:=aa hin
              replace hS3:=aa hS3
              replace hX3:=aa hX3
              clear hSlS hk1 hk2 hB1' hB2' hI1' j1 j2 j3 p1 p2 p3 p4 p5 q1 q2 q3 o1 o2 o3
              go_wp2_with (go_at_call 104;refine hin.out.mono ?_;rintro e w' ⟨rfl,rfl⟩)
              go_roundw
              case rel=>exact ⟨m+1,S3,X3,Au,Av,cu,cv,by omega,by go_num,rfl,rfl,hnx,hsl3,hsb,hxb,r2,r1,hI2',r3,hfin,hGf⟩
              case measure=>simp [intOf];omega
            ·have hnx:=aa (show j7 s S2 X2 (T.drop (m+1))=j7 s S' X T from by rw [←hstep.out,j7,if_neg t1,if_neg (fun e=>t2 e.1)])
             go_wp2
             go_roundw
             case rel=>exact ⟨m+1,S2,X2,As2,Ax2,cs2,cx2,by omega,by go_num,rfl,rfl,hnx,hS2X,hSb2,hX2,hJs,hJn,hJx,hJt,hapj,hGj⟩
             case measure=>simp [intOf];omega
          ·have hme:m=T.length:=by omega
           subst hme
           have hnx:=aa (show uA (bf p.steps) s S2 X2 (N.drop (i+1))=uA (bf p.steps) s S [] N from by
            have e1:=hP2.out
            rw [List.drop_length] at e1
            rw [←hP.out,hPk.out,←e1]
            rfl)
           have hap2:=aa (show Ap (.slice (some ⟨b,o,none⟩) N.length cn) (.slice As2 S2.length cs2)∧Ap (.slice Ax2 X2.length cx2) (.slice As2 S2.length cs2)∧Ap (.slice (some ⟨b,o,none⟩) N.length cn) (.slice Ax2 X2.length cx2) from ⟨hapj.out.1,hapj.out.2.1,hapj.out.2.2.1⟩)
           go_wp2
           go_roundw
           case rel=>exact ⟨i+1,S2,X2,As2,Ax2,cs2,cx2,by omega,by go_num,rfl,rfl,hnx,hS2X,hSb2,hX2,hJs,hJn,hJx,hap2,hGj⟩
           case measure=>simp [intOf];omega
    ·have hie:i=N.length:=by omega
     subst hie
     have hend:=aa (show yz (bf p.steps) s f' S' X=RES from by
      have:=hR'.out
      rw [←hP.out,List.drop_length] at this
      exact this)
     have hsl':=hS'.out.len
     have hfu:=aa (show X= []∨p.steps.length+1≤S'.length+f' from by
      have:=hSX.out
      by_cases hx:X= []
      ·exact .inl hx
      ·have:1≤X.length:=Ij.2 hx
       exact .inr (by omega))
     have hms:=hSX.out
     go_wp2
     go_roundw
     case rel=>exact ⟨f',S',X,As',Ax,cs',cx,rfl,rfl,hend,hfu,hS',hX,hIs',hIx,aa hap'.out.2.1.symm,hG'⟩
     case measure=>simp only [BD];omega
end
end Go.Proofs.YtijcdfdbkffiaaaGreatDoor

import Derived.Test.YtbbdhknagofghaaGreatTcp34
set_option linter.all false
set_option maxHeartbeats 8000000
set_option maxRecDepth 100000
open Go.Proofs.Tryz
namespace Go.Proofs.YtbbdhknagofghaaGreat
open _root_.Nat renaming lt_of_lt_of_le→Bg, le_trans→Bj
open _root_.Go.Calls renaming regrown_of→Bh
open _root_.List renaming getElem?_eq_getElem→Bk, take_zero→Bz, take_succ_cons→BE, drop_succ_cons→BY
open _root_.Go.Sort renaming grow→Bl
open Go.RowKit
theorem tz (A1 A2 A3 A4 A5 A6 A7:Option Addr) (p:Pg) (c1 c2 c3 c4 c5 c6 c7:Nat) (act op:Int) (lit:Lt) (head name:ByteArray) (hi lo:Int) (A:Option Addr) (n cap B:Nat) (w:World) (hB:B≤w.heap.size) (hP:bu w B A1 A2 A3 A4 A5 A6 A7 p):
  Calls prog 179 #[.agg (aq p A1 A2 A3 A4 A5 A6 A7 c1 c2 c3 c4 c5 c6 c7),.int .i64 act,.agg (aO op lit head name hi lo A n cap)] w fun e w'=>e=.returned (.tuple #[.agg (gw (db (dP p act op lit head name)).1),.int .i64 (db (dP p act op lit head name)).2])∧Below w.heap.size w w':=by
 unfold aO aq
 have lp1:=hP.1.len
 have lp2:=hP.2.len
 have lp4:=hP.4.len
 obtain ⟨wu,hwu,hsu,we,hwe,hse,wz,hwz,hsz,hw,cu,ce,cz,hqz,hl1,hl2,hl3⟩:=ql w (aq p A1 A2 A3 A4 A5 A6 A7 c1 c2 c3 c4 c5 c6 c7) 30 (aO op lit head name hi lo A n cap) 45 #[.int .i64 0,.bool false,.bool false] 75
 obtain ⟨u0,u1,u2,u3,u4,u5,u6⟩:=aF cu
 obtain ⟨e0,e1,e2,e3,e4,e5,e6,e7,e8⟩:=bU ce
 obtain ⟨z0,z1,z2⟩:=bF cz
 clear cu ce cz
 have hBz:B≤wz.heap.size:=by omega
 have hPz:=aa (hP.below (hw.out.mono hB))
 obtain ⟨r,hr⟩:∃ r,dP p act op lit head name=r:=⟨_,rfl⟩
 have hv0:=aa hr
 rw [hr]
 simp only [dP] at hv0
 have hH:=aa (cC wz A1 A2 A3 A4 A5 A6 A7 p c1 c2 c3 c4 c5 c6 c7 head hBz hPz.out)
 clear hP hr
 by_cases h1:op=1
 focus
  subst h1
  generalize ap p head=zh at hH
  by_cases hl0:lit.1=0
  ·have hv:=aa (show r=.ok ⟨lit.1,false,true⟩ from by rw [←hv0.out];simp [hl0])
   have hq:(lit.1==0)=true:=beq_iff_eq.2 hl0
   clear hl0
   go_enter func179,ntmps179
   go_wp2_with (go_at_call 115;with_reducible refine hH.out.mono ?_;rintro e w1 ⟨rfl,hb1⟩;have kb1:=ab hb1;have q1:=Bg hl1 hb1.size;have q2:=Bg hl2 hb1.size;have q3:=Bg hl3 hb1.size)
   have k0:=(hb1.cell (p:=⟨w.heap.size+1+1,0,none⟩) hl3).trans z0
   have k1:=(hb1.cell (p:=⟨w.heap.size+1+1,1,none⟩) hl3).trans z1
   have k2:=(hb1.cell (p:=⟨w.heap.size+1+1,2,none⟩) hl3).trans z2
   refine bodyPost_ret (v:=.tuple #[.agg #[.int .i64 lit.1,.bool false,.bool true],.int .i64 0]) (by simp [results,results179,go_sem,k0,k1,k2]) rfl ⟨by rw [hv.out];rfl,?_⟩
   exact ad (hw.out.trans (hb1.mono (by omega))) (by omega) _ _ _
  ·have hv:=aa (show r=.ok ⟨lit.1,false,false⟩ from by rw [←hv0.out];simp [hl0])
   have hq:(lit.1==0)=false:=beq_eq_false_iff_ne.2 hl0
   clear hl0
   go_enter func179,ntmps179
   go_wp2_with (go_at_call 115;with_reducible refine hH.out.mono ?_;rintro e w1 ⟨rfl,hb1⟩;have kb1:=ab hb1;have q1:=Bg hl1 hb1.size;have q2:=Bg hl2 hb1.size;have q3:=Bg hl3 hb1.size)
   have k0:=(hb1.cell (p:=⟨w.heap.size+1+1,0,none⟩) hl3).trans z0
   have k1:=(hb1.cell (p:=⟨w.heap.size+1+1,1,none⟩) hl3).trans z1
   have k2:=(hb1.cell (p:=⟨w.heap.size+1+1,2,none⟩) hl3).trans z2
   refine bodyPost_ret (v:=.tuple #[.agg #[.int .i64 lit.1,.bool false,.bool false],.int .i64 0]) (by simp [results,results179,go_sem,k0,k1,k2]) rfl ⟨by rw [hv.out];rfl,?_⟩
   exact ad (hw.out.trans (hb1.mono (by omega))) (by omega) _ _ _
 rotate_right
 focus
  by_cases h2:op=2
  focus
   subst h2
   by_cases hh:ap p head<0
   have hv:=aa (show r=.error 7 from by rw [←hv0.out];simp [hh])
   generalize ap p head=zh at hH hh
   rotate_right
   focus
    obtain ⟨k,hk,he⟩:=ft hh
    have hkz:(k:Int)<(p.headers.length:Int):=by omega
    have hf0:=io hk name
    have hFl:∀ W,Below wz.heap.size wz W→∀ d os,Hid (Calls prog 116 #[.agg (aq p A1 A2 A3 A4 A5 A6 A7 c1 c2 c3 c4 c5 c6 c7),.int .i64 (k:Int),.string name] (Bl (redrawn W d) os) _):=fun W hb d os=>aa (dF _ A1 A2 A3 A4 A5 A6 A7 p c1 c2 c3 c4 c5 c6 c7 (k:Int) name (Bj hBz (Bj hb.size (cH W d os))) (hPz.out.below ((aA hb hb.size d os).mono hBz)))
    obtain ⟨b,o,ecs,hA,hb,hel,hcell,A',c',rfl,hn,hS⟩:=hPz.out.headers.2 k _ (Bk hk)
    subst hA
    have x0:wz.cell? ⟨b,o+k*2,none⟩=some (.string p.headers[k].name):=by simpa using hcell 0 _ rfl
    have x1:wz.cell? ⟨b,o+k*2+1,none⟩=some (.slice A' p.headers[k].fields.length c'):=hcell 1 _ rfl
    have lf:=hS.len
    have hTf:∀ W,Below wz.heap.size wz W→∀ d os,Hid (Calls prog 213 #[.slice A' p.headers[k].fields.length c',.int .i64 (aJ p (k:Int) name)] (Bl (redrawn W d) os) _):=fun W hb d os=>aa (gP p.headers[k].fields A' c' (aJ p (k:Int) name) _ (Bj hBz (Bj hb.size (cH W d os))) (hS.below bA ((aA hb hb.size d os).mono hBz)) (by rw [hf0];exact dW _ _))
    have hv1:=aa (show cg p.headers[k].fields (aJ p (k:Int) name)=r from by rw [←hv0.out];simp [he,Bk hk,show ¬((k:Int)<0) from by omega])
    simp only [hv1.out] at hTf
    have hbw:b<wz.heap.size:=by omega
    rw [he] at hH
    clear hf0 hS hcell hv0 hv1 hh he hel
    generalize aJ p (k:Int) name=z at hFl hTf
    generalize db r=R at hTf ⊢
    obtain ⟨⟨tw,tr,tf⟩,er⟩:=R
    simp only [gw] at hTf ⊢
    replace hFl:=aa hFl
    replace hTf:=aa hTf
    go_enter func179,ntmps179
    go_wp2_with (go_at_call 115;with_reducible refine hH.out.mono ?_;rintro e w1 ⟨rfl,hb1⟩;have kb1:=ab hb1;have q1:=Bg hl1 hb1.size;have q2:=Bg hl2 hb1.size;have q3:=Bg hl3 hb1.size)
    have hF1:=hFl.out w1 hb1
    have hT1:=hTf.out w1 hb1
    have hg:=ax hb1 hb1.size
    refine aS 14 (by kernel_rfl) (by kernel_rfl) ?_
    simp only [BE,Bz,BY,List.drop_zero]
    repeat (any_goals (first|go_big_quiet_step (first|(go_at_call 116;with_reducible exact Bh (hF1 _ _).out)|(go_at_call 213;with_reducible exact Bh (hT1 _ _).out))|quiet_step (first|(go_at_call 116;with_reducible exact Bh (hF1 _ _).out)|(go_at_call 213;with_reducible exact Bh (hT1 _ _).out))))
    refine wpQuiet_nil ?_
    intro w2 hw2
    have hb2:=hb1.trans (hw2.mono hb1.size)
    have khb2:=ab hb2
    have p1:=Bg hl1 hb2.size
    have p2:=Bg hl2 hb2.size
    have p3:=Bg hl3 hb2.size
    clear hF1 hT1 hg kb1 hFl hTf
    have k0:=(hb2.cell (p:=⟨w.heap.size+1+1,0,none⟩) hl3).trans z0
    have k1:=(hb2.cell (p:=⟨w.heap.size+1+1,1,none⟩) hl3).trans z1
    have k2:=(hb2.cell (p:=⟨w.heap.size+1+1,2,none⟩) hl3).trans z2
    go_wp2
    refine bodyPost_ret (v:=.tuple #[.agg #[.int .i64 tw,.bool tr,.bool tf],.int .i64 er]) (by simp [results,results179,go_sem,k0,k1,k2]) rfl ⟨rfl,?_⟩
    exact ad (hw.out.trans (hb2.mono (by omega))) (by omega) _ _ _
  rotate_right
  focus
   by_cases h3:op=3
   focus
    subst h3
    generalize ap p head=zh at hH
    have hFl:∀ W,Below wz.heap.size wz W→∀ d os,Hid (Calls prog 114 #[.agg (aq p A1 A2 A3 A4 A5 A6 A7 c1 c2 c3 c4 c5 c6 c7),.string name] (Bl (redrawn W d) os) _):=fun W hb d os=>aa (eW _ A1 A2 A3 A4 A5 A6 A7 p c1 c2 c3 c4 c5 c6 c7 name (Bj hBz (Bj hb.size (cH W d os))) (hPz.out.below ((aA hb hb.size d os).mono hBz)))
    have hTf:∀ W,Below wz.heap.size wz W→∀ d os,Hid (Calls prog 213 #[.slice A2 p.metas.length c2,.int .i64 (ct p name)] (Bl (redrawn W d) os) _):=fun W hb d os=>aa (gP p.metas A2 c2 (ct p name) _ (Bj hBz (Bj hb.size (cH W d os))) (hPz.out.metas.below bA ((aA hb hb.size d os).mono hBz)) (dW _ _))
    have hv1:=aa (show cg p.metas (ct p name)=r from by rw [←hv0.out];simp)
    simp only [hv1.out] at hTf
    clear hv0 hv1
    generalize ct p name=z at hFl hTf
    generalize db r=R at hTf ⊢
    obtain ⟨⟨tw,tr,tf⟩,er⟩:=R
    simp only [gw] at hTf ⊢
    replace hFl:=aa hFl
    replace hTf:=aa hTf
    go_enter func179,ntmps179
    go_wp2_with (go_at_call 115;with_reducible refine hH.out.mono ?_;rintro e w1 ⟨rfl,hb1⟩;have kb1:=ab hb1;have q1:=Bg hl1 hb1.size;have q2:=Bg hl2 hb1.size;have q3:=Bg hl3 hb1.size)
    have hF1:=hFl.out w1 hb1
    have hT1:=hTf.out w1 hb1
    have hg:=ax hb1 hb1.size
    refine aS 9 (by kernel_rfl) (by kernel_rfl) ?_
    simp only [BE,Bz,BY,List.drop_zero]
    repeat (any_goals (first|go_big_quiet_step (first|(go_at_call 114;with_reducible exact Bh (hF1 _ _).out)|(go_at_call 213;with_reducible exact Bh (hT1 _ _).out))|quiet_step (first|(go_at_call 114;with_reducible exact Bh (hF1 _ _).out)|(go_at_call 213;with_reducible exact Bh (hT1 _ _).out))))
    refine wpQuiet_nil ?_
    intro w2 hw2
    have hb2:=hb1.trans (hw2.mono hb1.size)
    have khb2:=ab hb2
    have p1:=Bg hl1 hb2.size
    have p2:=Bg hl2 hb2.size
    have p3:=Bg hl3 hb2.size
    clear hF1 hT1 hg kb1 hFl hTf
    have k0:=(hb2.cell (p:=⟨w.heap.size+1+1,0,none⟩) hl3).trans z0
    have k1:=(hb2.cell (p:=⟨w.heap.size+1+1,1,none⟩) hl3).trans z1
    have k2:=(hb2.cell (p:=⟨w.heap.size+1+1,2,none⟩) hl3).trans z2
    go_wp2
    refine bodyPost_ret (v:=.tuple #[.agg #[.int .i64 tw,.bool tr,.bool tf],.int .i64 er]) (by simp [results,results179,go_sem,k0,k1,k2]) rfl ⟨rfl,?_⟩
    exact ad (hw.out.trans (hb2.mono (by omega))) (by omega) _ _ _
   rotate_right
   focus
    by_cases h4:op=4
    focus
     subst h4
     generalize ap p head=zh at hH
     have hQ:=aa (fun W (hb:Below wz.heap.size wz W)=>gX W A1 A2 A3 A4 A5 A6 A7 p c1 c2 c3 c4 c5 c6 c7 act name (Bj hBz hb.size) (hPz.out.below (hb.mono hBz)))
     by_cases hh:aL p act name<0
     ·have hv:=aa (show r=.error 7 from by rw [←hv0.out];simp [hh])
      generalize aL p act name=z at hQ hh
      clear hv0
      go_enter func179,ntmps179
      go_wp2_with (first|(go_at_call 115;with_reducible refine hH.out.mono ?_;rintro e w1 ⟨rfl,hb1⟩;have kb1:=ab hb1;have q1:=Bg hl1 hb1.size;have q2:=Bg hl2 hb1.size;have q3:=Bg hl3 hb1.size)|(go_at_call 175;with_reducible refine (hQ.out _ hb1).mono ?_;rintro e w2 ⟨rfl,hb12⟩;have hb2:=hb1.trans (hb12.mono hb1.size);have kb2:=ab hb2;have p1:=Bg hl1 hb2.size;have p2:=Bg hl2 hb2.size;have p3:=Bg hl3 hb2.size))
      have k0:=(hb2.cell (p:=⟨w.heap.size+1+1,0,none⟩) hl3).trans z0
      have k1:=(hb2.cell (p:=⟨w.heap.size+1+1,1,none⟩) hl3).trans z1
      have k2:=(hb2.cell (p:=⟨w.heap.size+1+1,2,none⟩) hl3).trans z2
      refine bodyPost_ret (v:=.tuple #[.agg #[.int .i64 0,.bool false,.bool false],.int .i64 7]) (by simp [results,results179,go_sem,k0,k1,k2]) rfl ⟨by rw [hv.out];rfl,?_⟩
      exact ad (hw.out.trans (hb2.mono (by omega))) (by omega) _ _ _
     ·obtain ⟨k,hk,rfl,he⟩:=ox hh
      have hkz:(k:Int)<(p.actions.length:Int):=by omega
      obtain ⟨b,o,ecs,hA,hb,hel,hcell,A',c',A'',c'',rfl,hn,hS,hS2⟩:=hPz.out.actions.2 k _ (Bk hk)
      subst hA
      obtain ⟨x0,x1,x2⟩:=dl hcell
      have lf:=hS.len
      have lg:=hS2.len
      have hTf:=aa (fun W (hb:Below wz.heap.size wz W)=>gP p.actions[k].params A' c' (aL p (k:Int) name) W (Bj hBz hb.size) (hS.below bA (hb.mono hBz)) (by rw [he];exact dW _ _))
      have hv1:=aa (show cg p.actions[k].params (aL p (k:Int) name)=r from by rw [←hv0.out];simp [hh,Bk hk])
      rw [hv1.out] at hTf
      have hbw:b<wz.heap.size:=by omega
      have hq:decide (aL p (k:Int) name<0)=false:=decide_eq_false hh
      clear hS hS2 hcell hv0 hv1 he hel hh
      generalize aL p (k:Int) name=z at hQ hTf hq
      generalize db r=R at hTf ⊢
      obtain ⟨⟨tw,tr,tf⟩,er⟩:=R
      simp only [gw] at hTf ⊢
      go_enter func179,ntmps179
      go_wp2_with (first|(go_at_call 115;with_reducible refine hH.out.mono ?_;rintro e w1 ⟨rfl,hb1⟩;have kb1:=ab hb1;have q1:=Bg hl1 hb1.size;have q2:=Bg hl2 hb1.size;have q3:=Bg hl3 hb1.size)|(go_at_call 175;with_reducible refine (hQ.out _ hb1).mono ?_;rintro e w2 ⟨rfl,hb12⟩;have hb2:=hb1.trans (hb12.mono hb1.size);have kb2:=ab hb2;have p1:=Bg hl1 hb2.size;have p2:=Bg hl2 hb2.size;have p3:=Bg hl3 hb2.size)|(go_at_call 213;with_reducible refine (hTf.out _ hb2).mono ?_;rintro e w3 ⟨rfl,hb23⟩;have hb3:=hb2.trans (hb23.mono hb2.size);have kb3:=ab hb3;have r3:=Bg hl3 hb3.size))
      have k0:=(hb3.cell (p:=⟨w.heap.size+1+1,0,none⟩) hl3).trans z0
      have k1:=(hb3.cell (p:=⟨w.heap.size+1+1,1,none⟩) hl3).trans z1
      have k2:=(hb3.cell (p:=⟨w.heap.size+1+1,2,none⟩) hl3).trans z2
      refine bodyPost_ret (v:=.tuple #[.agg #[.int .i64 tw,.bool tr,.bool tf],.int .i64 er]) (by simp [results,results179,go_sem,k0,k1,k2]) rfl ⟨rfl,?_⟩
      exact ad (hw.out.trans (hb3.mono (by omega))) (by omega) _ _ _
    rotate_right
    focus
     by_cases h6:op=6
     focus
      subst h6
      by_cases hh:ap p head<0
      have hv:=aa (show r=.error 7 from by rw [←hv0.out];simp [hh])
      generalize ap p head=zh at hH hh
      clear hv0
      rotate_right
      focus
       have hv:=aa (show r=.ok ⟨0,true,false⟩ from by rw [←hv0.out];simp [hh])
       have hq:decide (ap p head<0)=false:=decide_eq_false hh
       clear hv0 hh
       generalize ap p head=zh at hH hq
       go_enter func179,ntmps179
       go_wp2_with (go_at_call 115;with_reducible refine hH.out.mono ?_;rintro e w1 ⟨rfl,hb1⟩;have kb1:=ab hb1;have q1:=Bg hl1 hb1.size;have q2:=Bg hl2 hb1.size;have q3:=Bg hl3 hb1.size)
       have k0:=(hb1.cell (p:=⟨w.heap.size+1+1,0,none⟩) hl3).trans z0
       have k1:=(hb1.cell (p:=⟨w.heap.size+1+1,1,none⟩) hl3).trans z1
       have k2:=(hb1.cell (p:=⟨w.heap.size+1+1,2,none⟩) hl3).trans z2
       refine bodyPost_ret (v:=.tuple #[.agg #[.int .i64 0,.bool true,.bool false],.int .i64 0]) (by simp [results,results179,go_sem,k0,k1,k2]) rfl ⟨by rw [hv.out];rfl,?_⟩
       exact ad (hw.out.trans (hb1.mono (by omega))) (by omega) _ _ _
     rotate_right
     focus
      have hv:=aa (show r=.ok ⟨9,false,false⟩ from by rw [←hv0.out];simp [h1,h2,h3,h4,h6])
      have i1:(op==1)=false:=beq_eq_false_iff_ne.2 h1
      have i2:(op==2)=false:=beq_eq_false_iff_ne.2 h2
      have i3:(op==3)=false:=beq_eq_false_iff_ne.2 h3
      have i4:(op==4)=false:=beq_eq_false_iff_ne.2 h4
      have i6:(op==6)=false:=beq_eq_false_iff_ne.2 h6
      clear hv0
      generalize ap p head=zh at hH
      go_enter func179,ntmps179
      go_wp2_with (go_at_call 115;with_reducible refine hH.out.mono ?_;rintro e w1 ⟨rfl,hb1⟩;have kb1:=ab hb1;have q1:=Bg hl1 hb1.size;have q2:=Bg hl2 hb1.size;have q3:=Bg hl3 hb1.size)
      have k0:=(hb1.cell (p:=⟨w.heap.size+1+1,0,none⟩) hl3).trans z0
      have k1:=(hb1.cell (p:=⟨w.heap.size+1+1,1,none⟩) hl3).trans z1
      have k2:=(hb1.cell (p:=⟨w.heap.size+1+1,2,none⟩) hl3).trans z2
      refine bodyPost_ret (v:=.tuple #[.agg #[.int .i64 9,.bool false,.bool false],.int .i64 0]) (by simp [results,results179,go_sem,k0,k1,k2]) rfl ⟨by rw [hv.out];rfl,?_⟩
      exact ad (hw.out.trans (hb1.mono (by omega))) (by omega) _ _ _
 all_goals
  go_enter func179,ntmps179
  go_wp2_with (go_at_call 115;with_reducible refine hH.out.mono ?_;rintro e w1 ⟨rfl,hb1⟩;have kb1:=ab hb1;have q1:=Bg hl1 hb1.size;have q2:=Bg hl2 hb1.size;have q3:=Bg hl3 hb1.size)
  have k0:=(hb1.cell (p:=⟨w.heap.size+1+1,0,none⟩) hl3).trans z0
  have k1:=(hb1.cell (p:=⟨w.heap.size+1+1,1,none⟩) hl3).trans z1
  have k2:=(hb1.cell (p:=⟨w.heap.size+1+1,2,none⟩) hl3).trans z2
  refine bodyPost_ret (v:=.tuple #[.agg #[.int .i64 0,.bool false,.bool false],.int .i64 7]) (by simp [results,results179,go_sem,k0,k1,k2]) rfl ⟨by rw [hv.out];rfl,?_⟩
  exact ad (hw.out.trans (hb1.mono (by omega))) (by omega) _ _ _
end Go.Proofs.YtbbdhknagofghaaGreat

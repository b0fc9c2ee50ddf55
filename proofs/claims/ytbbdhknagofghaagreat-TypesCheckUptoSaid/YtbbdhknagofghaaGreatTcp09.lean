import Derived.Test.YtbbdhknagofghaaGreatTcp06
import Derived.Test.YtbbdhknagofghaaGreatTcp08
import Derived.Test.YtbbdhknagofghaaGreatTcp03
set_option linter.all false
set_option maxHeartbeats 8000000
set_option maxRecDepth 100000
open Go.Proofs.Tryz
namespace Go.Proofs.YtbbdhknagofghaaGreat
open _root_.Nat renaming lt_of_lt_of_le→Bg, le_trans→Bj, le_refl→Bm
open _root_.Go.Calls renaming regrown_of→Bh
open _root_.Go.RowKit.Below renaming refl→Bi
open _root_.List renaming getElem?_eq_getElem→Bk, take_zero→Bz, take_succ_cons→BE, length_singleton→BG, length_nil→BV, drop_succ_cons→BY
open _root_.Go.Sort renaming grow→Bl
open _root_.Bool renaming and_eq_true→Bn
open _root_.Int renaming toNat_natCast→BM, eq_ofNat_of_zero_le→BR
open Go.RowKit
theorem fs {w:World} {a:Nat} {v0 v1 v2 v3 v4 v5 v6 v7:Value} (h:∀ i,w.cell? ⟨a,i,none⟩=(#[v0,v1,v2,v3,v4,v5,v6,v7]:Array Value)[i]?):
  w.cell? ⟨a,0,none⟩=some v0∧w.cell? ⟨a,1,none⟩=some v1∧w.cell? ⟨a,2,none⟩=some v2∧w.cell? ⟨a,3,none⟩=some v3∧w.cell? ⟨a,4,none⟩=some v4∧w.cell? ⟨a,5,none⟩=some v5∧w.cell? ⟨a,6,none⟩=some v6∧w.cell? ⟨a,7,none⟩=some v7:=
 ⟨h 0,h 1,h 2,h 3,h 4,h 5,h 6,h 7⟩
theorem xo {α:Type} [DecidableEq α] (l:List α) (a:α):bb l a<(l.length:Int):=by
 unfold bb
 by_cases hm:a∈l
 ·rw [if_pos hm];have:=pc a l hm;omega
 ·rw [if_neg hm];omega
theorem dW (l:List Fd) (s:ByteArray):cw l s<(l.length:Int):=by
 have:=xo (l.map Prod.fst) s
 rw [List.length_map] at this
 exact this
theorem ft {p:Pg} {s:ByteArray} (h:¬ap p s<0):∃ k:Nat,k<p.headers.length∧ap p s=(k:Int):=by
 obtain ⟨k,hk,he⟩:=dB (l:=p.headers.map Hd.name) (a:=s) h
 exact ⟨k,by simpa using hk,he⟩
theorem io {p:Pg} {k:Nat} (hk:k<p.headers.length) (s:ByteArray):aJ p (k:Int) s=cw p.headers[k].fields s:=by
 unfold aJ;rw [if_neg (by omega),BM,Bk hk];rfl
theorem ox {p:Pg} {act:Int} {s:ByteArray} (h:¬aL p act s<0):∃ (k:Nat) (hk:k<p.actions.length),act=(k:Int)∧aL p act s=cw p.actions[k].params s:=by
 unfold aL at h ⊢
 by_cases h0:act<0
 ·rw [if_pos h0] at h;omega
 ·rw [if_neg h0] at h ⊢
  obtain ⟨k,rfl⟩:=BR (show 0≤act by omega)
  rw [BM] at h ⊢
  by_cases hk:k<p.actions.length
  ·refine ⟨k,hk,rfl,?_⟩
   rw [Bk hk];rfl
  ·rw [List.getElem?_eq_none (by omega)] at h
   simp only [Option.elim] at h
   omega
theorem uQ (A1 A2 A3 A4 A5 A6 A7:Option Addr) (p:Pg) (c1 c2 c3 c4 c5 c6 c7:Nat) (act op:Int) (lit:Lt) (head name:ByteArray) (hi lo:Int) (A:Option Addr) (n cap B:Nat) (w:World) (hB:B≤w.heap.size) (hP:bu w B A1 A2 A3 A4 A5 A6 A7 p):
  Calls prog 54 #[.agg (dw p A1 A2 A3 A4 A5 A6 A7 c1 c2 c3 c4 c5 c6 c7 act),.agg (aO op lit head name hi lo A n cap)] w fun e w'=>e=fB (dP p act op lit head name)∧Below w.heap.size w w':=by
 unfold aO dw
 have lp1:=hP.1.len
 have lp2:=hP.2.len
 have lp4:=hP.4.len
 obtain ⟨wv,hwv,hsv,we,hwe,hse,wz,hwz,hsz,hw,cv,ce,cz,hfr,hl1,hl2,hl3⟩:=ql w (dw p A1 A2 A3 A4 A5 A6 A7 c1 c2 c3 c4 c5 c6 c7 act) 88 (aO op lit head name hi lo A n cap) 45 #[.int .i64 0,.bool false,.bool false] 75
 obtain ⟨v0,v1,v2,v3,v4,v5,v6,v7⟩:=fs cv
 obtain ⟨e0,e1,e2,e3,e4,e5,e6,e7,e8⟩:=bU ce
 obtain ⟨z0,z1,z2⟩:=bF cz
 clear cv ce cz
 have hBz:B≤wz.heap.size:=by omega
 have hPz:=aa (hP.below (hw.out.mono hB))
 obtain ⟨r,hr⟩:∃ r,dP p act op lit head name=r:=⟨_,rfl⟩
 have hv0:=aa hr
 rw [hr]
 simp only [dP] at hv0
 clear hP hr
 by_cases h1:op=1
 focus
  subst h1
  by_cases hl0:lit.1=0
  ·have hv:=aa (show r=.ok ⟨lit.1,false,true⟩ from by rw [←hv0.out];simp [hl0])
   have hq:(lit.1==0)=true:=beq_iff_eq.2 hl0
   clear hl0
   go_enter func54,ntmps54
   go_wp2
   refine bodyPost_ret (v:=.agg #[.int .i64 lit.1,.bool false,.bool true]) (by simp [results,results54,go_sem,z0,z1,z2]) rfl ⟨by rw [hv.out];rfl,?_⟩
   exact ad hw.out (by omega) _ _ _
  ·have hv:=aa (show r=.ok ⟨lit.1,false,false⟩ from by rw [←hv0.out];simp [hl0])
   have hq:(lit.1==0)=false:=beq_eq_false_iff_ne.2 hl0
   clear hl0
   go_enter func54,ntmps54
   go_wp2
   refine bodyPost_ret (v:=.agg #[.int .i64 lit.1,.bool false,.bool false]) (by simp [results,results54,go_sem,z0,z1,z2]) rfl ⟨by rw [hv.out];rfl,?_⟩
   exact ad hw.out (by omega) _ _ _
 rotate_right
 focus
  by_cases h2:op=2
  focus
   subst h2
   have hH:=aa (cK wz A1 A2 A3 A4 A5 A6 A7 p c1 c2 c3 c4 c5 c6 c7 head hBz hPz.out)
   by_cases hh:ap p head<0
   rotate_right
   focus
    obtain ⟨k,hk,he⟩:=ft hh
    have hkz:(k:Int)<(p.headers.length:Int):=by omega
    have hf0:=io hk name
    have hFl:∀ W,Below wz.heap.size wz W→∀ d os,Hid (Calls prog 84 #[.agg (aq p A1 A2 A3 A4 A5 A6 A7 c1 c2 c3 c4 c5 c6 c7),.int .i64 (k:Int),.string name] (Bl (redrawn W d) os) _):=fun W hb d os=>aa (fG _ A1 A2 A3 A4 A5 A6 A7 p c1 c2 c3 c4 c5 c6 c7 (k:Int) name (Bj hBz (Bj hb.size (cH W d os))) (hPz.out.below ((aA hb hb.size d os).mono hBz)))
    obtain ⟨b,o,ecs,hA,hb,hel,hcell,A',c',rfl,hn,hS⟩:=hPz.out.headers.2 k _ (Bk hk)
    subst hA
    have x0:wz.cell? ⟨b,o+k*2,none⟩=some (.string p.headers[k].name):=by simpa using hcell 0 _ rfl
    have x1:wz.cell? ⟨b,o+k*2+1,none⟩=some (.slice A' p.headers[k].fields.length c'):=hcell 1 _ rfl
    have lf:=hS.len
    have hTf:=aa (fun W (hb:Below wz.heap.size wz W)=>iP p.headers[k].fields A' c' (aJ p (k:Int) name) W (Bj hBz hb.size) (hS.below bA (hb.mono hBz)) (by rw [hf0];exact dW _ _))
    have hv1:=aa (show cg p.headers[k].fields (aJ p (k:Int) name)=r from by rw [←hv0.out];simp [he,Bk hk,show ¬((k:Int)<0) from by omega])
    rw [hv1.out] at hTf
    have hbw:b<wz.heap.size:=by omega
    rw [he] at hH
    clear hf0 hS hcell hv0 hh he
    generalize aJ p (k:Int) name=z at hFl hTf
    replace hFl:=aa hFl
    go_enter func54,ntmps54
    go_wp2_with (first|(go_at_call 27;first|(with_reducible refine (aP _ _).mono ?_;rintro e w' ⟨rfl,rfl⟩)|(with_reducible refine (bJ _ _).mono ?_;rintro e w' ⟨rfl,rfl⟩))|(go_at_call 83;refine hH.out.mono ?_;rintro e w1 ⟨rfl,hb1⟩;have khb1:=ab hb1;have zhb10:=Bg hl1 hb1.size;have zhb11:=Bg hl2 hb1.size;have zhb12:=Bg hl3 hb1.size))
    have hF1:=hFl.out w1 hb1
    have hg:=ax hb1 hb1.size
    refine aS 13 (by kernel_rfl) (by kernel_rfl) ?_
    simp only [BE,Bz,BY,List.drop_zero]
    repeat (any_goals (first|go_big_quiet_step (first|(go_at_call 84;with_reducible exact Bh (hF1 _ _).out))|quiet_step (first|(go_at_call 84;with_reducible exact Bh (hF1 _ _).out))))
    refine wpQuiet_nil ?_
    intro w2 hw2
    have hb2:=hb1.trans (hw2.mono hb1.size)
    have hT2:=aa (hTf.out w2 hb2)
    have khb2:=ab hb2
    have zhb20:=Bg hl1 hb2.size
    have zhb21:=Bg hl2 hb2.size
    have zhb22:=Bg hl3 hb2.size
    clear hF1 hg khb1 hFl
    cases r with
    |error n7=>
     replace hT2:=aa (show Calls prog _ _ w2 fun e w'=>e=ji n7∧Below w2.heap.size w2 w' from hT2.out)
     go_wp2_with (go_at_call 124;refine hT2.out.mono ?_;rintro e w3 ⟨rfl,hb3⟩)
     exact ⟨rfl,rfl,hw.out.trans ((hb2.trans (hb3.mono hb2.size)).mono (by omega))⟩
    |ok t=>
     obtain ⟨tw,tr,tf⟩:=t
     replace hT2:=aa (show Calls prog _ _ w2 fun e w'=>e=.returned (.agg #[.int .i64 tw,.bool tr,.bool tf])∧Below w2.heap.size w2 w' from hT2.out)
     go_wp2_with (go_at_call 124;refine hT2.out.mono ?_;rintro e w3 ⟨rfl,hb3⟩;have kb3:=ab (hb2.trans (hb3.mono hb2.size)))
     have hbE:=hb2.trans (hb3.mono hb2.size)
     have k0:=(hbE.cell (p:=⟨w.heap.size+1+1,0,none⟩) hl3).trans z0
     have k1:=(hbE.cell (p:=⟨w.heap.size+1+1,1,none⟩) hl3).trans z1
     have k2:=(hbE.cell (p:=⟨w.heap.size+1+1,2,none⟩) hl3).trans z2
     refine bodyPost_ret (v:=.agg #[.int .i64 tw,.bool tr,.bool tf]) (by simp [results,results54,go_sem,k0,k1,k2]) rfl ⟨rfl,?_⟩
     exact ad (hw.out.trans (hbE.mono (by omega))) (by omega) _ _ _
  rotate_right
  focus
   by_cases h3:op=3
   focus
    subst h3
    have hFl:∀ d os,Hid (Calls prog 85 #[.agg (aq p A1 A2 A3 A4 A5 A6 A7 c1 c2 c3 c4 c5 c6 c7),.string name] (Bl (redrawn wz d) os) _):=fun d os=>aa (gL _ A1 A2 A3 A4 A5 A6 A7 p c1 c2 c3 c4 c5 c6 c7 name (Bj hBz (cH wz d os)) (hPz.out.below ((below_regrown wz d os).mono hBz)))
    have hTf:=aa (fun W (hb:Below wz.heap.size wz W)=>iP p.metas A2 c2 (ct p name) W (Bj hBz hb.size) (hPz.out.metas.below bA (hb.mono hBz)) (dW _ _))
    have hv1:=aa (show cg p.metas (ct p name)=r from by rw [←hv0.out];simp)
    rw [hv1.out] at hTf
    clear hv0
    generalize ct p name=z at hFl hTf
    have hb0:Below wz.heap.size wz wz:=Bi _ _
    have hg:=ax hb0 hb0.size
    go_enter func54,ntmps54
    go_wp2_with fail
    refine aS 8 (by kernel_rfl) (by kernel_rfl) ?_
    simp only [BE,Bz,BY,List.drop_zero]
    repeat (any_goals (first|go_big_quiet_step (first|(go_at_call 85;with_reducible exact Bh (hFl _ _).out))|quiet_step (first|(go_at_call 85;with_reducible exact Bh (hFl _ _).out))))
    refine wpQuiet_nil ?_
    intro w2 hw2
    have hb2:=hw2
    have hT2:=aa (hTf.out w2 hb2)
    have khb2:=ab hb2
    have zhb20:=Bg hl1 hb2.size
    have zhb21:=Bg hl2 hb2.size
    have zhb22:=Bg hl3 hb2.size
    clear hg hFl
    cases r with
    |error n7=>
     replace hT2:=aa (show Calls prog _ _ w2 fun e w'=>e=ji n7∧Below w2.heap.size w2 w' from hT2.out)
     go_wp2_with (go_at_call 124;refine hT2.out.mono ?_;rintro e w3 ⟨rfl,hb3⟩)
     exact ⟨rfl,rfl,hw.out.trans ((hb2.trans (hb3.mono hb2.size)).mono (by omega))⟩
    |ok t=>
     obtain ⟨tw,tr,tf⟩:=t
     replace hT2:=aa (show Calls prog _ _ w2 fun e w'=>e=.returned (.agg #[.int .i64 tw,.bool tr,.bool tf])∧Below w2.heap.size w2 w' from hT2.out)
     go_wp2_with (go_at_call 124;refine hT2.out.mono ?_;rintro e w3 ⟨rfl,hb3⟩;have kb3:=ab (hb2.trans (hb3.mono hb2.size)))
     have hbE:=hb2.trans (hb3.mono hb2.size)
     have k0:=(hbE.cell (p:=⟨w.heap.size+1+1,0,none⟩) hl3).trans z0
     have k1:=(hbE.cell (p:=⟨w.heap.size+1+1,1,none⟩) hl3).trans z1
     have k2:=(hbE.cell (p:=⟨w.heap.size+1+1,2,none⟩) hl3).trans z2
     refine bodyPost_ret (v:=.agg #[.int .i64 tw,.bool tr,.bool tf]) (by simp [results,results54,go_sem,k0,k1,k2]) rfl ⟨rfl,?_⟩
     exact ad (hw.out.trans (hbE.mono (by omega))) (by omega) _ _ _
   rotate_right
   focus
    by_cases h4:op=4
    focus
     subst h4
     have hH:=aa (ki wz A1 A2 A3 A4 A5 A6 A7 p c1 c2 c3 c4 c5 c6 c7 act name hBz hPz.out)
     by_cases hh:aL p act name<0
     ·have hv:=aa (show r=.error 7 from by rw [←hv0.out];simp [hh])
      have hq:decide (0≤aL p act name)=false:=decide_eq_false (by omega)
      generalize aL p act name=z at hH hq
      clear hh
      go_enter func54,ntmps54
      go_wp2_with (first|(go_at_call 27;first|(with_reducible refine (aP _ _).mono ?_;rintro e w' ⟨rfl,rfl⟩)|(with_reducible refine (bJ _ _).mono ?_;rintro e w' ⟨rfl,rfl⟩))|(go_at_call 88;refine hH.out.mono ?_;rintro e w1 ⟨rfl,hb1⟩;have khb1:=ab hb1;have zhb10:=Bg hl1 hb1.size;have zhb11:=Bg hl2 hb1.size;have zhb12:=Bg hl3 hb1.size))
      exact ⟨rfl,by rw [hv.out];rfl,hw.out.trans (hb1.mono (by omega))⟩
     ·obtain ⟨k,hk,rfl,he⟩:=ox hh
      have hkz:(k:Int)<(p.actions.length:Int):=by omega
      obtain ⟨b,o,ecs,hA,hb,hel,hcell,A',c',A'',c'',rfl,hn,hS,hS2⟩:=hPz.out.actions.2 k _ (Bk hk)
      subst hA
      obtain ⟨x0,x1,x2⟩:=dl hcell
      have lf:=hS.len
      have lg:=hS2.len
      have hTf:=aa (fun W (hb:Below wz.heap.size wz W)=>iP p.actions[k].params A' c' (aL p (k:Int) name) W (Bj hBz hb.size) (hS.below bA (hb.mono hBz)) (by rw [he];exact dW _ _))
      have hv1:=aa (show cg p.actions[k].params (aL p (k:Int) name)=r from by rw [←hv0.out];simp [hh,Bk hk])
      rw [hv1.out] at hTf
      have hbw:b<wz.heap.size:=by omega
      have hq:decide (0≤aL p (k:Int) name)=true:=decide_eq_true (by omega)
      clear hS hS2 hcell hv0 hh he
      generalize aL p (k:Int) name=z at hH hTf hq
      go_enter func54,ntmps54
      go_wp2_with (first|(go_at_call 27;first|(with_reducible refine (aP _ _).mono ?_;rintro e w' ⟨rfl,rfl⟩)|(with_reducible refine (bJ _ _).mono ?_;rintro e w' ⟨rfl,rfl⟩))|(go_at_call 88;refine hH.out.mono ?_;rintro e w1 ⟨rfl,hb1⟩;have khb1:=ab hb1;have zhb10:=Bg hl1 hb1.size;have zhb11:=Bg hl2 hb1.size;have zhb12:=Bg hl3 hb1.size))
      have hT1:=aa (hTf.out w1 hb1)
      cases r with
      |error n7=>
       replace hT1:=aa (show Calls prog _ _ w1 fun e w'=>e=ji n7∧Below w1.heap.size w1 w' from hT1.out)
       go_wp2_with (go_at_call 124;refine hT1.out.mono ?_;rintro e w3 ⟨rfl,hb3⟩)
       exact ⟨rfl,rfl,hw.out.trans ((hb1.trans (hb3.mono hb1.size)).mono (by omega))⟩
      |ok t=>
       obtain ⟨tw,tr,tf⟩:=t
       replace hT1:=aa (show Calls prog _ _ w1 fun e w'=>e=.returned (.agg #[.int .i64 tw,.bool tr,.bool tf])∧Below w1.heap.size w1 w' from hT1.out)
       go_wp2_with (go_at_call 124;refine hT1.out.mono ?_;rintro e w3 ⟨rfl,hb3⟩;have kb3:=ab (hb1.trans (hb3.mono hb1.size)))
       have hbE:=hb1.trans (hb3.mono hb1.size)
       have k0:=(hbE.cell (p:=⟨w.heap.size+1+1,0,none⟩) hl3).trans z0
       have k1:=(hbE.cell (p:=⟨w.heap.size+1+1,1,none⟩) hl3).trans z1
       have k2:=(hbE.cell (p:=⟨w.heap.size+1+1,2,none⟩) hl3).trans z2
       refine bodyPost_ret (v:=.agg #[.int .i64 tw,.bool tr,.bool tf]) (by simp [results,results54,go_sem,k0,k1,k2]) rfl ⟨rfl,?_⟩
       exact ad (hw.out.trans (hbE.mono (by omega))) (by omega) _ _ _
    rotate_right
    focus
     by_cases h6:op=6
     focus
      subst h6
      have hH:=aa (cK wz A1 A2 A3 A4 A5 A6 A7 p c1 c2 c3 c4 c5 c6 c7 head hBz hPz.out)
      by_cases hh:ap p head<0
      rotate_right
      focus
       have hv:=aa (show r=.ok ⟨0,true,false⟩ from by rw [←hv0.out];simp [hh])
       have hq:decide (0≤ap p head)=true:=decide_eq_true (by omega)
       generalize ap p head=z at hH hq
       clear hh
       go_enter func54,ntmps54
       go_wp2_with (first|(go_at_call 27;first|(with_reducible refine (aP _ _).mono ?_;rintro e w' ⟨rfl,rfl⟩)|(with_reducible refine (bJ _ _).mono ?_;rintro e w' ⟨rfl,rfl⟩))|(go_at_call 83;refine hH.out.mono ?_;rintro e w1 ⟨rfl,hb1⟩;have khb1:=ab hb1;have zhb10:=Bg hl1 hb1.size;have zhb11:=Bg hl2 hb1.size;have zhb12:=Bg hl3 hb1.size))
       have hbE:=hb1
       have k0:=(hbE.cell (p:=⟨w.heap.size+1+1,0,none⟩) hl3).trans z0
       have k1:=(hbE.cell (p:=⟨w.heap.size+1+1,1,none⟩) hl3).trans z1
       have k2:=(hbE.cell (p:=⟨w.heap.size+1+1,2,none⟩) hl3).trans z2
       refine bodyPost_ret (v:=.agg #[.int .i64 0,.bool true,.bool false]) (by simp [results,results54,go_sem,k0,k1,k2]) rfl ⟨by rw [hv.out];rfl,?_⟩
       exact ad (hw.out.trans (hbE.mono (by omega))) (by omega) _ _ _
     rotate_right
     focus
      have hv:=aa (show r=.ok ⟨9,false,false⟩ from by rw [←hv0.out];simp [h1,h2,h3,h4,h6])
      go_enter func54,ntmps54
      go_wp2
      refine bodyPost_ret (v:=.agg #[.int .i64 9,.bool false,.bool false]) (by simp [results,results54,go_sem,z0,z1,z2]) rfl ⟨by rw [hv.out];rfl,?_⟩
      exact ad hw.out (by omega) _ _ _
 all_goals
  have hv:=aa (show r=.error 7 from by rw [←hv0.out];simp [hh])
  have hq:decide (0≤ap p head)=false:=decide_eq_false (by omega)
  generalize ap p head=z at hH hq
  clear hh
  go_enter func54,ntmps54
  go_wp2_with (first|(go_at_call 27;first|(with_reducible refine (aP _ _).mono ?_;rintro e w' ⟨rfl,rfl⟩)|(with_reducible refine (bJ _ _).mono ?_;rintro e w' ⟨rfl,rfl⟩))|(go_at_call 83;refine hH.out.mono ?_;rintro e w1 ⟨rfl,hb1⟩;have khb1:=ab hb1;have zhb10:=Bg hl1 hb1.size;have zhb11:=Bg hl2 hb1.size;have zhb12:=Bg hl3 hb1.size))
  exact ⟨rfl,by rw [hv.out];rfl,hw.out.trans (hb1.mono (by omega))⟩
section
attribute [local go_sem] fZ eF ev
def bZ (wz wx:World) (g:Nat) (n:Int) (tr fr:Bool):Prop:=
 Below wz.heap.size wz wx∧wz.heap.size≤g∧g<wx.heap.size∧wx.cell? ⟨g,0,none⟩=some (.int .i64 n)∧wx.cell? ⟨g,1,none⟩=some (.bool tr)∧wx.cell? ⟨g,2,none⟩=some (.bool fr)
theorem bZ.new {wz w3:World} (h:Below wz.heap.size wz w3) (n:Int) (tr fr:Bool):bZ wz (w3.alloc (.cells #[.int .i64 n,.bool tr,.bool fr] 75)) w3.heap.size n tr fr:=by
 have hc:∀ i,(w3.alloc (.cells #[.int .i64 n,.bool tr,.bool fr] 75)).cell? ⟨w3.heap.size,i,none⟩=(#[.int .i64 n,.bool tr,.bool fr]:Array Value)[i]? :=fun _=>World.cell?_alloc_at _ _ _ _ rfl
 obtain ⟨c0,c1,c2⟩:=bF hc
 exact ⟨h.alloc h.size _,h.size,by simp,c0,c1,c2⟩
theorem bZ.set {wz w2 w3:World} (h2:w2=wz.drew.alloc (.cells #[.int .i64 0,.bool false,.bool false] 75)) (h3:Below wz.heap.size wz w3) (h4:Below w2.heap.size w2 w3) (n:Int) (tr fr:Bool):
  bZ wz (((w3.setCell ⟨wz.heap.size,0,none⟩ (.int .i64 n)).setCell ⟨wz.heap.size,1,none⟩ (.bool tr)).setCell ⟨wz.heap.size,2,none⟩ (.bool fr)) wz.heap.size n tr fr:=by
 have hs:w2.heap.size=wz.heap.size+1:=by rw [h2];simp
 have hc:∀ i,w2.cell? ⟨wz.heap.size,i,none⟩=(#[.int .i64 0,.bool false,.bool false]:Array Value)[i]? :=fun _=>by rw [h2];exact World.cell?_alloc_at _ _ _ _ rfl
 have hc3:=fun i=>(bx h4 wz.heap.size i (by omega)).trans (hc i)
 obtain ⟨c0,c1,c2⟩:=bF hc3
 have hlt:wz.heap.size<w3.heap.size:=by have:=h4.size;omega
 refine ⟨ad h3 (Bm _) _ _ _,Bm _,by simpa [World.setCell] using hlt,?_,?_,?_⟩<;>simp [go_sem,c0,c1,c2]
def gN (A1 A2 A3 A4 A5 A6 A7:Option Addr) (p:Pg) (c1 c2 c3 c4 c5 c6 c7:Nat) (act:Int) (B:Nat) (e:Ex):Prop:=∀ (cs:List Value) (w:World),B≤w.heap.size→bu w B A1 A2 A3 A4 A5 A6 A7 p→dL w B cs e→
  Calls prog 29 #[.agg #[.slice A1 p.headers.length c1,.slice A2 p.metas.length c2,.slice A3 p.states.length c3,.slice A4 p.actions.length c4,.slice A5 p.tables.length c5,.slice A6 p.control.length c6,.slice A7 p.emit.length c7,.int .i64 act],.agg cs.toArray] w fun r w'=>r=fB (bI p act e)∧Below w.heap.size w w'
theorem xp (A1 A2 A3 A4 A5 A6 A7:Option Addr) (p:Pg) (c1 c2 c3 c4 c5 c6 c7:Nat) (act:Int) (B:Nat) (op:Int) (lit:Lt) (head name:ByteArray) (hi lo:Int) (he:aT (.mk op lit head name hi lo [])=true):gN A1 A2 A3 A4 A5 A6 A7 p c1 c2 c3 c4 c5 c6 c7 act B (.mk op lit head name hi lo []):=by
 intro cs w hB hP h
 obtain ⟨A,cap,rfl,-,-,-,-,-,-,hs⟩:=RE.inv h
 have hl:=hs.len
 clear h
 show Calls _ _ #[.agg #[.slice A1 p.headers.length c1,.slice A2 p.metas.length c2,.slice A3 p.states.length c3,.slice A4 p.actions.length c4,.slice A5 p.tables.length c5,.slice A6 p.control.length c6,.slice A7 p.emit.length c7,.int .i64 act],.agg #[.int .u8 op,.int .i64 lit.1,.int .u64 lit.2.1,.int .u64 lit.2.2,.string head,.string name,.int .i64 hi,.int .i64 lo,.slice A ([]:List Ex).length cap]] _ _
 obtain ⟨wv,hwv,hsv,we,hwe,hse,wz,hwz,hsz,hw,cv,ce,cz,hfr,hl1,hl2,hl3⟩:=ql w (dw p A1 A2 A3 A4 A5 A6 A7 c1 c2 c3 c4 c5 c6 c7 act) 88 (aO op lit head name hi lo A ([]:List Ex).length cap) 45 #[.int .i64 0,.bool false,.bool false] 75
 obtain ⟨v0,v1,v2,v3,v4,v5,v6,v7⟩:=fs cv
 obtain ⟨e0,e1,e2,e3,e4,e5,e6,e7,e8⟩:=bU ce
 obtain ⟨z0,z1,z2⟩:=bF cz
 clear cv ce cz
 have hBz:B≤wz.heap.size:=by omega
 have hPz:=aa (hP.below (hw.out.mono hB))
 have hSz:=aa (hs.below ai (hw.out.mono hB))
 clear hP hs
 have hL:=aa (uQ A1 A2 A3 A4 A5 A6 A7 p c1 c2 c3 c4 c5 c6 c7 act op lit head name hi lo A 0 cap B wz hBz hPz.out)
 have hv:=aa (show bI p act (.mk op lit head name hi lo [])=dP p act op lit head name from by simp only [bI])
 simp only [BV] at*
 generalize dP p act op lit head name=r at hL hv
 cases r with
 |error n7=>
  replace hL:=aa (show Calls prog _ _ wz fun e w'=>e=ji n7∧Below wz.heap.size wz w' from hL.out)
  go_enter func29,ntmps29
  go_wp2_with (go_at_call 54;refine hL.out.mono ?_;rintro e w3 ⟨rfl,hb3⟩)
  exact ⟨rfl,by rw [hv.out];rfl,hw.out.trans (hb3.mono (by omega))⟩
 |ok t=>
  obtain ⟨tw,tr,tf⟩:=t
  replace hL:=aa (show Calls prog _ _ wz fun e w'=>e=.returned (.agg #[.int .i64 tw,.bool tr,.bool tf])∧Below wz.heap.size wz w' from hL.out)
  go_enter func29,ntmps29
  go_wp2_with (go_at_call 54;refine hL.out.mono ?_;rintro e w3 ⟨rfl,hb3⟩;have kb3:=ab hb3;have zz:=Bg hl3 hb3.size)
  have k0:=(hb3.cell (p:=⟨w.heap.size+1+1,0,none⟩) hl3).trans z0
  have k1:=(hb3.cell (p:=⟨w.heap.size+1+1,1,none⟩) hl3).trans z1
  have k2:=(hb3.cell (p:=⟨w.heap.size+1+1,2,none⟩) hl3).trans z2
  refine bodyPost_ret (v:=.agg #[.int .i64 tw,.bool tr,.bool tf]) (by simp [results,results29,go_sem,k0,k1,k2]) rfl ⟨by rw [hv.out];rfl,?_⟩
  exact ad (hw.out.trans (hb3.mono (by omega))) (by omega) _ _ _
theorem yM (A1 A2 A3 A4 A5 A6 A7:Option Addr) (p:Pg) (c1 c2 c3 c4 c5 c6 c7:Nat) (act:Int) (B:Nat) (op:Int) (lit:Lt) (head name:ByteArray) (hi lo:Int) (a:Ex) (he:aT (.mk op lit head name hi lo [a])=true) (ih:gN A1 A2 A3 A4 A5 A6 A7 p c1 c2 c3 c4 c5 c6 c7 act B a):gN A1 A2 A3 A4 A5 A6 A7 p c1 c2 c3 c4 c5 c6 c7 act B (.mk op lit head name hi lo [a]):=by
 intro cs w hB hP h
 obtain ⟨A,cap,rfl,-,-,-,-,-,-,hs⟩:=RE.inv h
 have hl:=hs.len
 clear h
 show Calls _ _ #[.agg #[.slice A1 p.headers.length c1,.slice A2 p.metas.length c2,.slice A3 p.states.length c3,.slice A4 p.actions.length c4,.slice A5 p.tables.length c5,.slice A6 p.control.length c6,.slice A7 p.emit.length c7,.int .i64 act],.agg #[.int .u8 op,.int .i64 lit.1,.int .u64 lit.2.1,.int .u64 lit.2.2,.string head,.string name,.int .i64 hi,.int .i64 lo,.slice A [a].length cap]] _ _
 obtain ⟨wv,hwv,hsv,we,hwe,hse,wz,hwz,hsz,hw,cv,ce,cz,hfr,hl1,hl2,hl3⟩:=ql w (dw p A1 A2 A3 A4 A5 A6 A7 c1 c2 c3 c4 c5 c6 c7 act) 88 (aO op lit head name hi lo A [a].length cap) 45 #[.int .i64 0,.bool false,.bool false] 75
 obtain ⟨v0,v1,v2,v3,v4,v5,v6,v7⟩:=fs cv
 obtain ⟨e0,e1,e2,e3,e4,e5,e6,e7,e8⟩:=bU ce
 obtain ⟨z0,z1,z2⟩:=bF cz
 clear cv ce cz
 have hBz:B≤wz.heap.size:=by omega
 have hPz:=aa (hP.below (hw.out.mono hB))
 have hSz:=aa (hs.below ai (hw.out.mono hB))
 clear hP hs
 obtain ⟨b,o,ecs,hA,hbb,hel,hcell,hr⟩:=hSz.out.2 0 a rfl
 subst hA
 have hX:=aa (fun (W:World) (hb:Below wz.heap.size wz W)=>ih ecs W (Bj hBz hb.size) (hPz.out.below (hb.mono hBz)) (ai.keep hr fun q hq=>(hb.mono hBz).cell hq))
 have hv0:=aa (show bI p act (.mk op lit head name hi lo [a])=(match bI p act a with| .error n=>.error n| .ok s=>fX op hi lo s) from by simp only [bI];cases bI p act a<;>rfl)
 have hform:op=10→0≤lo∧lo≤hi∧hi<128:=by
  simp only [aT,Bn] at he
  exact (mo he.1.1).2
 obtain ⟨rr,hrr⟩:∃ rr,bI p act (.mk op lit head name hi lo [a])=rr:=⟨_,rfl⟩
 rw [hrr] at hv0 ⊢
 clear ih hrr he
 generalize bI p act a=ra at hX hv0
 obtain ⟨opa,lita,heada,namea,hia,loa,argsa⟩:=a
 obtain ⟨Aa,capa,rfl,-,-,-,-,-,-,hsa'⟩:=RE.inv hr
 have la:=hsa'.len
 obtain ⟨x0,x1,x2,x3,x4,x5,x6,x7,x8⟩:=cl hcell
 simp only [Nat.zero_mul,Nat.add_zero,BG] at*
 have hbw:b<wz.heap.size:=by omega
 change Hid (∀ W hb,Calls _ _ #[_,.agg (aO opa lita heada namea hia loa Aa argsa.length capa)] W _) at hX
 clear hcell hr hsa' hel
 cases ra with
 |error n7=>
  have hv:=aa (show rr=.error n7 from hv0.out)
  replace hX:=aa (show ∀ W,Below wz.heap.size wz W→Calls prog _ #[_,.agg (aO opa lita heada namea hia loa Aa argsa.length capa)] W fun e w'=>e=ji n7∧Below wz.heap.size wz w'∧Below W.heap.size W w' from fun W hb=>(hX.out W hb).mono fun e w' h=>⟨h.1,hb.trans (h.2.mono hb.size),h.2⟩)
  have hb0:Below wz.heap.size wz wz:=Bi _ _
  have hg:=ax hb0 hb0.size
  clear hv0
  go_enter func29,ntmps29
  go_wp2_with fail
  refine aN 5 (w2:=wz.drew.alloc (.cells #[.int .i64 0,.bool false,.bool false] 75)) (vf:=.pointer (some ⟨wz.heap.size,0,none⟩)) (by kernel_rfl) (by kernel_rfl) rfl (fun _=>rfl) (fun _=>by go_simp) ?_
  simp only [BE,Bz]
  repeat (refine bL (fun K hK=> ?_);go_simp;refine hK _ ?_;clear hK K)
  refine cm ⟨?_,?_⟩
  all_goals
   go_wp2_with (go_at_call 29;refine (hX.out _ (by first|exact (Bi _ _).drew|exact (Bi _ _).drew.alloc (Bm _) _)).mono ?_;rintro e w3 ⟨rfl,hb3,hb4⟩)
   exact ⟨rfl,by rw [hv.out];rfl,hw.out.trans (hb3.mono (by omega))⟩
 |ok s=>
  obtain ⟨sw,sr,sf⟩:=s
  replace hX:=aa (show ∀ W,Below wz.heap.size wz W→Calls prog _ #[_,.agg (aO opa lita heada namea hia loa Aa argsa.length capa)] W fun e w'=>e=.returned (.agg #[.int .i64 sw,.bool sr,.bool sf])∧Below wz.heap.size wz w'∧Below W.heap.size W w' from fun W hb=>(hX.out W hb).mono fun e w' h=>⟨h.1,hb.trans (h.2.mono hb.size),h.2⟩)
  have hT:=aa (fun (W:World)=>xl op lit head name hi lo (some ⟨b,o,none⟩) 1 cap ⟨sw,sr,sf⟩ W hform)
  have hv1:=aa (show fX op hi lo ⟨sw,sr,sf⟩=rr from hv0.out.symm)
  have hb0:Below wz.heap.size wz wz:=Bi _ _
  have hg:=ax hb0 hb0.size
  clear hv0
  rw [hv1.out] at hT
  go_enter func29,ntmps29
  go_upto_region 3 with fail
  go_cut [5] (fun sp wx=>∃ g,sp=.pointer (some ⟨g,0,none⟩)∧Hid (bZ wz wx g sw sr sf))
  case first=>
   refine aN 5 (w2:=wz.drew.alloc (.cells #[.int .i64 0,.bool false,.bool false] 75)) (vf:=.pointer (some ⟨wz.heap.size,0,none⟩)) (by kernel_rfl) (by kernel_rfl) rfl (fun _=>rfl) (fun _=>by go_simp) ?_
   simp only [BE,Bz]
   repeat (refine bL (fun K hK=> ?_);go_simp;refine hK _ ?_;clear hK K)
   refine cm ⟨?_,?_⟩
   ·go_wp2_with (go_at_call 29;refine (hX.out _ (by exact (Bi _ _).drew)).mono ?_;rintro e w3 ⟨rfl,hb3,hb4⟩)
    go_meet
    exact ⟨_,rfl,aa (bZ.new hb3 _ _ _)⟩
   ·go_wp2_with (go_at_call 29;refine (hX.out _ (by exact (Bi _ _).drew.alloc (Bm _) _)).mono ?_;rintro e w3 ⟨rfl,hb3,hb4⟩;have kb4:=cM hb4)
    go_meet
    exact ⟨_,rfl,aa (bZ.set rfl hb3 hb4 _ _ _)⟩
  case rest=>
   obtain ⟨g,rfl,hT0⟩:=hcut
   obtain ⟨hbc,hgz,hgl,s0,s1,s2⟩:=hT0.out
   have kbc:=ab hbc
   have q1:=Bg hl1 hbc.size
   have q2:=Bg hl2 hbc.size
   have q3:=Bg hl3 hbc.size
   have hT1:=aa (hT.out wc)
   clear hT hX hb0 hg
   cases rr with
   |error n7=>
    replace hT1:=aa (show Calls prog _ _ wc fun e w'=>e=ji n7∧Below wc.heap.size wc w' from hT1.out)
    go_wp2_with (go_at_call 55;refine hT1.out.mono ?_;rintro e w4 ⟨rfl,hb4⟩)
    exact ⟨rfl,rfl,hw.out.trans ((hbc.trans (hb4.mono hbc.size)).mono (by omega))⟩
   |ok t=>
    obtain ⟨tw,tr,tf⟩:=t
    replace hT1:=aa (show Calls prog _ _ wc fun e w'=>e=.returned (.agg #[.int .i64 tw,.bool tr,.bool tf])∧Below wc.heap.size wc w' from hT1.out)
    go_wp2_with (go_at_call 55;refine hT1.out.mono ?_;rintro e w4 ⟨rfl,hb4⟩;have kb4:=ab (hbc.trans (hb4.mono hbc.size)))
    have hbE:=hbc.trans (hb4.mono hbc.size)
    have k0:=(hbE.cell (p:=⟨w.heap.size+1+1,0,none⟩) hl3).trans z0
    have k1:=(hbE.cell (p:=⟨w.heap.size+1+1,1,none⟩) hl3).trans z1
    have k2:=(hbE.cell (p:=⟨w.heap.size+1+1,2,none⟩) hl3).trans z2
    refine bodyPost_ret (v:=.agg #[.int .i64 tw,.bool tr,.bool tf]) (by simp [results,results29,go_sem,k0,k1,k2]) rfl ⟨rfl,?_⟩
    exact ad (hw.out.trans (hbE.mono (by omega))) (by omega) _ _ _
end
end Go.Proofs.YtbbdhknagofghaaGreat

import Derived.Test.YtijcdfdbkffiaaaGreatDoorCbp12
set_option linter.all false
set_option maxHeartbeats 8000000
set_option maxRecDepth 100000
open Go.Proofs.Tryz
namespace Go.Proofs.YtijcdfdbkffiaaaGreatDoor
open _root_.Nat renaming lt_of_lt_of_le→Hr, le_refl→Ht, le_trans→Hw, zero_le→Hz
open _root_.Go.RowKit.Below renaming refl→Hs
open _root_.Bool renaming false_and→Hu, true_and→Hx, and_eq_true→Hy, and_eq_false_iff→Ib
open _root_.List renaming getElem?_eq_getElem→HA, getElem?_toArray→HB, getElem?_cons_zero→HC, getElem?_cons_succ→HD, length_append→HM, all_eq_true→HT, take_length→H7, take_succ_eq_append_getElem→H9, drop_eq_getElem_cons→Iu
open Go.RowKit
theorem rB (A1 A2 A3 A4 A5 A6 A7 A8 A9 A10 A11 A12:Option Addr) (p:Lp) (c1 c2 c3 c4 c5 c6 c7 c8 c9 c10 c11 c12:Nat) (s:j8) (P1 P2 P3:Option Addr) (d1 d2 d3:Nat) (w:World) (h:cz w w.heap.size A1 A2 A3 A4 A5 A6 A7 A8 A9 A10 A11 A12 p) (h1:Sl 1 bc w w.heap.size P1 s.takes) (h2:Sl 1 pT w w.heap.size P2 s.keys) (h3:Sl 2 vM w w.heap.size P3 s.brs) (h4:s.keys.length≤sm):
  Calls prog 41 #[.agg (aO A1 A2 A3 A4 A5 A6 A7 A8 A9 A10 A11 A12 p c1 c2 c3 c4 c5 c6 c7 c8 c9 c10 c11 c12),.agg #[.slice P1 s.takes.length d1,.slice P2 s.keys.length d2,.slice P3 s.brs.length d3,.int .i64 s.to]] w fun e w'=>e=.returned (.bool (ej p s))∧Below w.heap.size w w':=by
 unfold aO
 obtain ⟨takes,ks,brs,tt⟩:=s
 simp only at h1 h2 h3 h4 ⊢
 have lt1:=h1.len
 have lt2:=h2.len
 have lt3:=h3.len
 have ls:=h.steps.len
 have lh:=h.heads.len
 obtain ⟨wz,hwz,hsz,hbz,hcz,-⟩:=af w (aO A1 A2 A3 A4 A5 A6 A7 A8 A9 A10 A11 A12 p c1 c2 c3 c4 c5 c6 c7 c8 c9 c10 c11 c12) 33
 obtain ⟨wa,hwa,hsa,hba,hca,-⟩:=af wz #[.slice P1 takes.length d1,.slice P2 ks.length d2,.slice P3 brs.length d3,.int .i64 tt] 79
 obtain ⟨wb,hwb,hsb,hbb,hcb,-⟩:=af wa #[.func (.func 89) #[] #[.pointer (some ⟨w.heap.size,0,none⟩)]] 142
 obtain ⟨wc,hwc,hsc,hbc,hcc,-⟩:=af wb #[.func (.func 90) #[] #[.pointer (some ⟨w.heap.size,0,none⟩)]] 142
 have hE2:Below wb.heap.size wb wc:=hbc
 have hE3:Below wa.heap.size wa wc:=hbb.trans (hbc.mono (by omega))
 have hE4:Below wz.heap.size wz wc:=hba.trans (hE3.mono (by omega))
 have hw:Below w.heap.size w wc:=hbz.trans (hE4.mono (by omega))
 have Y:=fun i=>(bj hE4 w.heap.size i (by omega)).trans (hcz i)
 have X:=fun i=>(bj hE3 wz.heap.size i (by omega)).trans (hca i)
 have T0:=(bj hE2 wa.heap.size 0 (by omega)).trans (hcb 0)
 have U0:=hcc 0
 simp only [hsb,hsa,hsz] at X T0 U0
 have k1:w.heap.size<wc.heap.size:=by omega
 have k2:w.heap.size+1<wc.heap.size:=by omega
 have k3:w.heap.size+1+1<wc.heap.size:=by omega
 have k4:w.heap.size+1+1+1<wc.heap.size:=by omega
 have x0:wc.cell? ⟨w.heap.size+1,0,none⟩=some (.slice P1 takes.length d1):=X 0
 have x1:wc.cell? ⟨w.heap.size+1,1,none⟩=some (.slice P2 ks.length d2):=X 1
 have x2:wc.cell? ⟨w.heap.size+1,2,none⟩=some (.slice P3 brs.length d3):=X 2
 have x3:wc.cell? ⟨w.heap.size+1,3,none⟩=some (.int .i64 tt):=X 3
 simp only [HB,HC] at T0 U0
 have y0:=Y 0
 have y1:=Y 1
 have y2:=Y 2
 have y3:=Y 3
 have y4:=Y 4
 have y5:=Y 5
 have y6:=Y 6
 have y7:=Y 7
 have y8:=Y 8
 have y9:=Y 9
 have y10:=Y 10
 have y11:=Y 11
 simp only [HB,HC,HD] at y0 y1 y2 y3 y4 y5 y6 y7 y8 y9 y10 y11
 have hK:=ri A1 A2 A3 A4 A5 A6 A7 A8 A9 A10 A11 A12 p c1 c2 c3 c4 c5 c6 c7 c8 c9 c10 c11 c12 ks P2 d2 wc ((h.below hw).more hw.size) ((h2.below aV hw).more aV hw.size) h4
 have hT:=aa ((h1.below ah hw).more ah hw.size)
 have hB:=aa ((h3.below bZ hw).more bZ hw.size)
 have hv0:=aa (show ej p ⟨takes,ks,brs,tt⟩=match f6 (eO p (-1)) ks with
  |none=>false
  |some ws=>decide (ks.length≤4)&&decide (takes.length≤8)&&takes.all (dC p.heads.length)&&gd p tt&&(if ks.length=0 then decide (brs.length=0) else
   decide (tt=0)&&decide (1≤brs.length)&&decide (brs.length≤16)&&brs.all fun b=>gd p b.to&&dr dR b.pats ws) from rfl)
 replace hw:=aa hw
 replace hsc:=aa hsc
 unfold rh at hK
 clear X Y hca hcz hcb hcc hba hbz hbb hbc hE2 hE3 hE4 h h1 h2 h3
 go_enter func41,ntmps41
 cases ho:f6 (eO p (-1)) ks with
 |none=>
  rw [ho] at hK hv0
  replace hK:=aa hK
  go_wp2_with (go_at_call 91;refine hK.out.mono ?_;rintro e w3 ⟨rfl,hb3⟩)
  go_ret
  exact ⟨ad hv0.out.symm,hw.out.trans ((hb3.mono hw.out.size).alloc (Hw hw.out.size hb3.size) _)⟩
 |some ws=>
  rw [ho] at hK hv0
  simp only at hv0
  replace hK:=aa hK
  go_upto_region 4 with (go_at_call 91;refine hK.out.mono ?_;rintro e w3 ⟨⟨B,cp,rfl,hI⟩,hb3⟩)
  obtain ⟨wd,hwd,hsd,hbd,hcd,-⟩:=af w3 #[.slice B ws.length cp] 23
  have z0:wd.cell? ⟨w3.heap.size,0,none⟩=some (.slice B ws.length cp):=hcd 0
  have hD:Below wc.heap.size wc wd:=hb3.trans (hbd.mono hb3.size)
  have T0d:=(hD.cell (p:=⟨w.heap.size+1+1,0,none⟩) k3).trans T0
  have U0d:=(hD.cell (p:=⟨w.heap.size+1+1+1,0,none⟩) k4).trans U0
  have x0d:=(hD.cell (p:=⟨w.heap.size+1,0,none⟩) k2).trans x0
  have x1d:=(hD.cell (p:=⟨w.heap.size+1,1,none⟩) k2).trans x1
  have x2d:=(hD.cell (p:=⟨w.heap.size+1,2,none⟩) k2).trans x2
  have x3d:=(hD.cell (p:=⟨w.heap.size+1,3,none⟩) k2).trans x3
  have y0d:=(hD.cell (p:=⟨w.heap.size,0,none⟩) k1).trans y0
  have y2d:=(hD.cell (p:=⟨w.heap.size,2,none⟩) k1).trans y2
  have g1:=Hr k1 hD.size
  have g2:=Hr k2 hD.size
  have g3:=Hr k3 hD.size
  have g4:=Hr k4 hD.size
  have gw:w3.heap.size<wd.heap.size:=by omega
  have hTd:=(hT.out.below ah hD).more (B':=wd.heap.size) ah hD.size
  have hBd:=aa ((hB.out.below bZ hD).more (B':=wd.heap.size) bZ hD.size)
  obtain ⟨WA,wcp,ew,hWs⟩:=hI.sl
  injection ew with ew1 ew2 ew3
  subst ew1 ew3
  clear ew2
  have hWd:=aa ((hWs.below ah hbd).more (B':=wd.heap.size) ah hbd.size)
  have hwd':=aa (hw.out.trans (hD.mono hw.out.size))
  have hF:FM wd.heap.size 92 #[.pointer (some ⟨w.heap.size+1+1+1,0,none⟩)] (fun t=> !dC p.heads.length t) takes wd:=fun t W _ hW=>by
   refine (xi p A1 c1 w.heap.size (w.heap.size+1+1+1) t W lh ((hW.cell (p:=⟨w.heap.size,0,none⟩) g1).trans y0d) ((hW.cell (p:=⟨w.heap.size+1+1+1,0,none⟩) g4).trans U0d)).mono fun e w' ⟨he,hq⟩=>⟨he,by rw [hq];exact Hs _ _⟩
  have hM:=fD 92 _ xg (fun t=> !dC p.heads.length t) P1 d1 takes wd hTd hF
  rw [je] at hM
  have hTo:=fun W (hc:W.cell? ⟨w.heap.size,2,none⟩=some (.slice A3 p.steps.length c3))=>rj p A3 c3 w.heap.size tt W ls hc
  replace hsd:=aa hsd
  have hgo:=aa (fun W (hW:Below wd.heap.size wd W)=>hwd'.out.trans (hW.mono hwd'.out.size))
  clear hI hb3 hbd hcd hWs hD hTd hF T0 U0 x0 x1 x2 x3 y0 y1 y2 y3 y4 y5 y6 y7 y8 y9 y10 y11 hK
  by_cases a1:ks.length≤4
  ·rw [decide_eq_true a1,Hx] at hv0
   have a1b:=decide_eq_true a1
   by_cases a2:takes.length≤8
   ·rw [decide_eq_true a2,Hx] at hv0
    have a2z:¬(8:Int)<(takes.length:Int):=by omega
    generalize takes.all (dC p.heads.length)=M at hM hv0
    generalize gd p tt=T at hTo hv0
    replace hM:=aa hM
    cases M with
    |false=>
     rw [Hu,Hu] at hv0
     rw [a1b]
     go_wp2_with (go_at_call 80;refine hM.out.mono ?_;rintro e w5 ⟨rfl,hb5⟩;have t5:=(hb5.cell (p:=⟨w.heap.size+1+1,0,none⟩) g3).trans T0d;have e3:=(hb5.cell (p:=⟨w.heap.size+1,3,none⟩) g2).trans x3d;have e1:=(hb5.cell (p:=⟨w.heap.size+1,1,none⟩) g2).trans x1d;have e2:=(hb5.cell (p:=⟨w.heap.size+1,2,none⟩) g2).trans x2d;have e0:=(hb5.cell (p:=⟨w.heap.size,2,none⟩) g1).trans y2d;have g5:=hb5.size;have q2:=Hr g2 g5;have q3:=Hr g3 g5)
     go_ret
     exact ⟨ad hv0.out.symm,hgo.out _ hb5⟩
    |true=>
     cases T with
     |false=>
      rw [Hx,Hu] at hv0
      rw [a1b]
      go_wp2_with (first|(go_at_call 80;refine hM.out.mono ?_;rintro e w5 ⟨rfl,hb5⟩;have t5:=(hb5.cell (p:=⟨w.heap.size+1+1,0,none⟩) g3).trans T0d;have e3:=(hb5.cell (p:=⟨w.heap.size+1,3,none⟩) g2).trans x3d;have e1:=(hb5.cell (p:=⟨w.heap.size+1,1,none⟩) g2).trans x1d;have e2:=(hb5.cell (p:=⟨w.heap.size+1,2,none⟩) g2).trans x2d;have e0:=(hb5.cell (p:=⟨w.heap.size,2,none⟩) g1).trans y2d;have g5:=hb5.size;have q2:=Hr g2 g5;have q3:=Hr g3 g5)|(go_at_call 89;refine (hTo _ e0).mono ?_;rintro e w' ⟨rfl,rfl⟩))
      go_ret
      exact ⟨ad hv0.out.symm,hgo.out _ hb5⟩
     |true=>
      rw [Hx,Hx] at hv0
      rw [a1b]
      go_upto_region 6 with (first|(go_at_call 80;refine hM.out.mono ?_;rintro e w5 ⟨rfl,hb5⟩;have t5:=(hb5.cell (p:=⟨w.heap.size+1+1,0,none⟩) g3).trans T0d;have e3:=(hb5.cell (p:=⟨w.heap.size+1,3,none⟩) g2).trans x3d;have e1:=(hb5.cell (p:=⟨w.heap.size+1,1,none⟩) g2).trans x1d;have e2:=(hb5.cell (p:=⟨w.heap.size+1,2,none⟩) g2).trans x2d;have e0:=(hb5.cell (p:=⟨w.heap.size,2,none⟩) g1).trans y2d;have g5:=hb5.size;have q2:=Hr g2 g5;have q3:=Hr g3 g5)|(go_at_call 89;refine (hTo _ e0).mono ?_;rintro e w' ⟨rfl,rfl⟩))
      have hgo5:=aa (hgo.out _ hb5)
      by_cases b0:ks.length=0
      ·have b0z:((ks.length:Int)==0)=true:=by rw [beq_iff_eq];omega
       rw [if_pos b0] at hv0
       by_cases b1:brs.length=0
       ·have b1z:((brs.length:Int)==0)=true:=by rw [beq_iff_eq];omega
        rw [decide_eq_true b1] at hv0
        replace b0:=aa b0
        replace b1:=aa b1
        go_wp2
        go_ret
        exact ⟨ad hv0.out.symm,hgo5.out⟩
       ·have b1z:((brs.length:Int)==0)=false:=by rw [beq_eq_false_iff_ne];omega
        rw [decide_eq_false b1] at hv0
        replace b0:=aa b0
        go_wp2
        go_ret
        exact ⟨ad hv0.out.symm,hgo5.out⟩
      ·have b0z:((ks.length:Int)==0)=false:=by rw [beq_eq_false_iff_ne];omega
       rw [if_neg b0] at hv0
       by_cases b2:tt=0
       ·rw [decide_eq_true b2,Hx] at hv0
        subst b2
        by_cases b3:1≤brs.length
        ·rw [decide_eq_true b3,Hx] at hv0
         have b3z:(1:Int)≤(brs.length:Int):=by omega
         by_cases b4:brs.length≤16
         ·rw [decide_eq_true b4,Hx] at hv0
          have b4z:(brs.length:Int)≤16:=by omega
          have f5:=hb5.cell (p:=⟨w3.heap.size,0,none⟩) gw
          have hF5:CP vM w5.heap.size 93 #[.pointer (some ⟨w.heap.size+1+1,0,none⟩),.pointer (some ⟨w3.heap.size,0,none⟩)] (fun b=> !(gd p b.to&&dr dR b.pats ws)) brs w5:=fun b W cs _ hW hr=>by
           obtain ⟨PA,pc,rfl,hs⟩:=hr
           exact CQ p A3 c3 w.heap.size (w.heap.size+1+1) w3.heap.size ws B cp b PA pc W ls hs (((hWd.out.below ah hb5).below ah (hW.mono g5)).more ah (Hw g5 hW.size)) ((hW.cell (p:=⟨w.heap.size,2,none⟩) (Hr g1 g5)).trans e0) ((hW.cell (p:=⟨w.heap.size+1+1,0,none⟩) q3).trans t5) ((hW.cell (p:=⟨w3.heap.size,0,none⟩) (Hr gw g5)).trans (f5.trans z0)) (Hr g1 (Hw g5 hW.size)) (Hr g3 (Hw g5 hW.size)) (Hr gw (Hw g5 hW.size))
          have hQ:=mp 93 _ xh _ P3 d3 brs w5 ((hBd.out.below bZ hb5).more bZ g5) hF5
          rw [je] at hQ
          generalize (brs.all fun b=>gd p b.to&&dr dR b.pats ws)=Z at hQ hv0
          replace hQ:=aa hQ
          clear hF5
          cases Z
          all_goals
           go_wp2_with (go_at_call 96;refine hQ.out.mono ?_;rintro e w6 ⟨rfl,hb6⟩)
           go_ret
           exact ⟨ad hv0.out.symm,hgo5.out.trans (hb6.mono hgo5.out.size)⟩
         ·rw [decide_eq_false b4,Hu] at hv0
          have b4z:¬(brs.length:Int)≤16:=by omega
          go_wp2
          go_ret
          exact ⟨ad hv0.out.symm,hgo5.out⟩
        ·rw [decide_eq_false b3,Hu,Hu] at hv0
         have b3z:¬(1:Int)≤(brs.length:Int):=by omega
         go_wp2
         go_ret
         exact ⟨ad hv0.out.symm,hgo5.out⟩
       ·rw [decide_eq_false b2,Hu,Hu,Hu] at hv0
        have b2z:(tt==0)=false:=beq_eq_false_iff_ne.2 b2
        go_wp2
        go_ret
        exact ⟨ad hv0.out.symm,hgo5.out⟩
   ·rw [decide_eq_false a2,Hu,Hu,Hu] at hv0
    have a2z:(8:Int)<(takes.length:Int):=by omega
    rw [a1b]
    go_wp2
    go_ret
    exact ⟨ad hv0.out.symm,hwd'.out⟩
  ·rw [decide_eq_false a1,Hu,Hu,Hu,Hu] at hv0
   have a1b:=decide_eq_false a1
   rw [a1b]
   go_wp2
   go_ret
   exact ⟨ad hv0.out.symm,hwd'.out⟩
theorem jf (A:Option Addr) (cap:Nat) (xs:List Int) (n:Nat) (w:World) (h:Sl 1 bc w w.heap.size A xs):
  Calls prog 37 #[.slice A xs.length cap,.int .i64 (n:Int)] w fun e w'=>e=.returned (.bool (mX xs n))∧w=w':=by
 have hl:=h.len
 have hv:=aa (show mX xs n=ar (fun i=>aZ (fun x=>dC n x&& !decide (bo xs x<i)) xs i) xs.length from rfl)
 generalize hF:(fun i:Nat=>aZ (fun x=>dC n x&& !decide (bo xs x<i)) xs i)=F at hv
 have hI:=aa (fun y=>lW A cap xs y w h)
 go_enter func37,ntmps37
 go_wp2
 go_loop [5,6,9] (fun _ _ i=>∃ k:Nat,k≤xs.length∧i=.int .i64 k∧Hid (ar F k=true)) (fun _ _ i=>xs.length-(intOf i).toNat)
 case atStart=>exact ⟨0,Hz _,rfl,aa rfl⟩
 case round=>
  obtain ⟨k,hk,rfl,hc⟩:=hrel
  by_cases hlt:k<xs.length
  focus
   obtain ⟨b,o,rfl,hb,hcell⟩:=h.int hlt
   have hkz:(k:Int)<(xs.length:Int):=by omega
   have hFk:F k=(dC n xs[k]&& !decide (bo xs xs[k]<k)):=by rw [←hF];simp only [am _ hlt]
   have hN:=aa (fun (g:F k=true)=>show ar F (k+1)=true from by rw [ar,hc.out,g];rfl)
   have hlo:=aa (fun (g:F k=false)=>show ar F xs.length=false from ba hlt g)
   clear h hF
   generalize xs[k]=x at*
   by_cases c1:x<0
   have d1:decide (x<0)=true:=decide_eq_true c1
   rotate_right
   focus
    have d1:decide (x<0)=false:=decide_eq_false c1
    by_cases c2:(n:Int)≤x
    rotate_right
    focus
     obtain ⟨y,rfl,hy⟩:=fQ c1 c2
     rw [eF hy,Hx] at hFk
     have hIy:=hI.out (y:Int)
     clear hI
     generalize bo xs (y:Int)=f at hFk hIy
     replace hIy:=aa hIy
     by_cases c3:f<(k:Int)
     ·replace hlo:=aa (hlo.out (by rw [hFk,decide_eq_true c3];rfl))
      clear hFk hN
      go_wp2_with (go_at_call 85;refine hIy.out.mono ?_;rintro e w' ⟨rfl,rfl⟩)
      all_goals first|(exfalso;omega)|(go_ret;exact ⟨ad (by rw [hv.out,hlo.out]),rfl⟩)
     ·replace hN:=aa (hN.out (by rw [hFk,decide_eq_false c3];rfl))
      clear hFk hlo
      go_wp2_with (go_at_call 85;refine hIy.out.mono ?_;rintro e w' ⟨rfl,rfl⟩)
      all_goals try (exfalso;omega)
      go_round
      case rel=>exact ⟨k+1,by omega,by go_num,hN⟩
      case measure=>simp [intOf];omega
  rotate_right
  focus
   have hke:k=xs.length:=by omega
   subst hke
   go_wp2
   go_ret
   exact ⟨ad (by rw [hv.out,hc.out]),rfl⟩
  all_goals
   replace hlo:=aa (hlo.out (by rw [hFk,bS (by omega)];rfl))
   clear hFk hN
   go_wp2
   all_goals first|(exfalso;omega)|(go_ret;exact ⟨ad (by rw [hv.out,hlo.out]),rfl⟩)
theorem mu {l:List Int} {k:Nat} (hk:k<l.length):gk (l.take (k+1))=gk (l.take k)+(if l[k]=2 then 1 else 0):=by
 unfold gk
 rw [H9 hk,List.filter_append,HM]
 by_cases h:l[k]=2<;>simp [h]
theorem Sl.byte {w:World} {B:Nat} {A:Option Addr} {xs:List Int} (h:Sl 1 B8 w B A xs) {i:Nat} (hi:i<xs.length):∃ b o,A=some ⟨b,o,none⟩∧b<B∧w.cell? ⟨b,o+i,none⟩=some (.int .u8 xs[i]):=by
 obtain ⟨b,o,u,hA,hb,hc,hr⟩:=h.at1 hi
 cases hr
 exact ⟨b,o,hA,hb,hc⟩
theorem tK (A1 A2 A3 A4 A5 A6 A7 A8 A9 A10 A11 A12:Option Addr) (p:Lp) (c1 c2 c3 c4 c5 c6 c7 c8 c9 c10 c11 c12:Nat) (t:fJ) (P1 P2 P3 P4:Option Addr) (d1 d2 d3 d4:Nat) (w:World) (h:cz w w.heap.size A1 A2 A3 A4 A5 A6 A7 A8 A9 A10 A11 A12 p) (h1:Sl 1 pT w w.heap.size P1 t.keys) (h2:Sl 1 B8 w w.heap.size P2 t.kinds) (h3:Sl 1 bc w w.heap.size P3 t.acts) (h4:Sl 2 f8 w w.heap.size P4 t.run.args) (h5:t.keys.length≤sm):
  Calls prog 45 #[.agg (aO A1 A2 A3 A4 A5 A6 A7 A8 A9 A10 A11 A12 p c1 c2 c3 c4 c5 c6 c7 c8 c9 c10 c11 c12),.agg #[.slice P1 t.keys.length d1,.slice P2 t.kinds.length d2,.slice P3 t.acts.length d3,.int .i64 t.run.act,.slice P4 t.run.args.length d4]] w fun e w'=>e=.returned (.bool (ij p t))∧Below w.heap.size w w':=by
 unfold aO
 obtain ⟨ks,kinds,acts,ra,rg⟩:=t
 simp only at h1 h2 h3 h4 h5 ⊢
 have lt1:=h1.len
 have lt2:=h2.len
 have lt3:=h3.len
 have la:=h.acts.len
 obtain ⟨wz,hwz,hsz,hbz,hcz,-⟩:=af w (aO A1 A2 A3 A4 A5 A6 A7 A8 A9 A10 A11 A12 p c1 c2 c3 c4 c5 c6 c7 c8 c9 c10 c11 c12) 33
 obtain ⟨wa,hwa,hsa,hba,hca,-⟩:=af wz #[.slice P1 ks.length d1,.slice P2 kinds.length d2,.slice P3 acts.length d3,.int .i64 ra,.slice P4 rg.length d4] 88
 have Y:=fun i=>(bj hba w.heap.size i (by omega)).trans (hcz i)
 rw [hsz] at hca
 have k1:w.heap.size<wa.heap.size:=by omega
 have k2:w.heap.size+1<wa.heap.size:=by omega
 have hw:Below w.heap.size w wa:=hbz.trans (hba.mono (by omega))
 have x0:wa.cell? ⟨w.heap.size+1,0,none⟩=some (.slice P1 ks.length d1):=hca 0
 have x1:wa.cell? ⟨w.heap.size+1,1,none⟩=some (.slice P2 kinds.length d2):=hca 1
 have x2:wa.cell? ⟨w.heap.size+1,2,none⟩=some (.slice P3 acts.length d3):=hca 2
 have x3:wa.cell? ⟨w.heap.size+1,3,none⟩=some (.int .i64 ra):=hca 3
 have x4:wa.cell? ⟨w.heap.size+1,4,none⟩=some (.slice P4 rg.length d4):=hca 4
 have y0:=Y 0
 have y1:=Y 1
 have y2:=Y 2
 have y3:=Y 3
 have y4:=Y 4
 have y5:=Y 5
 have y6:=Y 6
 have y7:=Y 7
 have y8:=Y 8
 have y9:=Y 9
 have y10:=Y 10
 have y11:=Y 11
 simp only [HB,HC,HD] at y0 y1 y2 y3 y4 y5 y6 y7 y8 y9 y10 y11
 have hK:=ri A1 A2 A3 A4 A5 A6 A7 A8 A9 A10 A11 A12 p c1 c2 c3 c4 c5 c6 c7 c8 c9 c10 c11 c12 ks P1 d1 wa ((h.below hw).more hw.size) ((h1.below aV hw).more aV hw.size) h5
 have hP:=aa ((h.below hw).more (B':=wa.heap.size) hw.size)
 have hk:=aa ((h2.below cw hw).more (B':=wa.heap.size) cw hw.size)
 have hA:=aa ((h3.below ah hw).more (B':=wa.heap.size) ah hw.size)
 have hG:=aa ((h4.below aq hw).more (B':=wa.heap.size) aq hw.size)
 have hv0:=aa (show ij p ⟨ks,kinds,acts,⟨ra,rg⟩⟩=((f6 (eO p (-1)) ks).isSome&&decide (ks.length≤4)&& !decide (ks.length=0)&&decide (kinds.length=ks.length)&&ar (aZ dS kinds) kinds.length&&decide (gk kinds≤1)&&
  decide (1≤acts.length)&&decide (acts.length≤16)&&mX acts p.acts.length&&dH p acts ⟨ra,rg⟩) from rfl)
 replace hw:=aa hw
 replace hsa:=aa hsa
 unfold rh at hK
 clear Y hca hcz hba hbz h h1 h2 h3 h4
 go_enter func45,ntmps45
 cases ho:f6 (eO p (-1)) ks with
 |none=>
  rw [ho] at hK hv0
  replace hK:=aa hK
  go_wp2_with (go_at_call 91;refine hK.out.mono ?_;rintro e w3 ⟨rfl,hb3⟩)
  go_ret
  exact ⟨ad hv0.out.symm,hw.out.trans (hb3.mono hw.out.size)⟩
 |some ws=>
  rw [ho] at hK hv0
  simp only [Option.isSome_some,Hx] at hv0
  replace hK:=aa hK
  go_upto_region 2 with (go_at_call 91;refine hK.out.mono ?_;rintro e w3 ⟨⟨B,cp,rfl,-⟩,hb3⟩)
  have hD:=hb3
  have x0d:=(hD.cell (p:=⟨w.heap.size+1,0,none⟩) k2).trans x0
  have x1d:=(hD.cell (p:=⟨w.heap.size+1,1,none⟩) k2).trans x1
  have x2d:=(hD.cell (p:=⟨w.heap.size+1,2,none⟩) k2).trans x2
  have x3d:=(hD.cell (p:=⟨w.heap.size+1,3,none⟩) k2).trans x3
  have x4d:=(hD.cell (p:=⟨w.heap.size+1,4,none⟩) k2).trans x4
  have Yd:=fun i=>hD.cell (p:=⟨w.heap.size,i,none⟩) k1
  have t0:=(Yd 0).trans y0
  have t1:=(Yd 1).trans y1
  have t2:=(Yd 2).trans y2
  have t3:=(Yd 3).trans y3
  have t4:=(Yd 4).trans y4
  have t5:=(Yd 5).trans y5
  have t6:=(Yd 6).trans y6
  have t7:=(Yd 7).trans y7
  have t8:=(Yd 8).trans y8
  have t9:=(Yd 9).trans y9
  have t10:=(Yd 10).trans y10
  have t11:=(Yd 11).trans y11
  have hPd:=(hP.out.below hD).more hD.size
  have hkd:=aa ((hk.out.below cw hD).more (B':=w3.heap.size) cw hD.size)
  have hAd:=(hA.out.below ah hD).more (B':=w3.heap.size) ah hD.size
  have hGd:=(hG.out.below aq hD).more (B':=w3.heap.size) aq hD.size
  have hR:=mg A1 A2 A3 A4 A5 A6 A7 A8 A9 A10 A11 A12 p c1 c2 c3 c4 c5 c6 c7 c8 c9 c10 c11 c12 P3 P4 d3 d4 acts ⟨ra,rg⟩ w3 hPd hAd hGd
  have hDi:=jf P3 d3 acts p.acts.length w3 hAd
  simp only at hR
  generalize dH p acts ⟨ra,rg⟩=R at hR hv0
  generalize mX acts p.acts.length=S at hDi hv0
  replace hR:=aa hR
  replace hDi:=aa hDi
  have hbw:=aa (hw.out.trans (hD.mono hw.out.size))
  clear hD hb3 Yd hPd hAd hGd y0 y1 y2 y3 y4 y5 y6 y7 y8 y9 y10 y11 x0 x1 x2 x3 x4 hK
  by_cases a1:ks.length≤4
  ·have a1b:=decide_eq_true a1
   rw [a1b,Hx] at hv0
   rw [a1b]
   by_cases a2:ks.length=0
   ·have a2z:((ks.length:Int)==0)=true:=by rw [beq_iff_eq];omega
    rw [decide_eq_true a2,Bool.not_true,Hu,Hu,Hu,Hu,Hu,Hu,Hu] at hv0
    replace a2:=aa a2
    go_wp2
    go_ret
    exact ⟨ad hv0.out.symm,hbw.out⟩
   ·have a2z:((ks.length:Int)==0)=false:=by rw [beq_eq_false_iff_ne];omega
    rw [decide_eq_false a2,Bool.not_false,Hx] at hv0
    by_cases a3:kinds.length=ks.length
    ·have a3z:((kinds.length:Int) !=(ks.length:Int))=false:=by rw [a3];exact bne_self_eq_false _
     rw [decide_eq_true a3,Hx] at hv0
     replace a3:=aa a3
     go_wp2
     go_loop [7,9,37] (fun s _ i=>∃ (k n:Nat),k≤kinds.length∧i=.int .i64 k∧s=.int .i64 n∧n≤k∧Hid (gk (kinds.take k)=n)∧Hid (ar (aZ dS kinds) k=true)) (fun _ _ i=>kinds.length-(intOf i).toNat)
     case atStart=>exact ⟨0,0,Hz _,rfl,rfl,Ht _,aa rfl,aa rfl⟩
     case round=>
      obtain ⟨k,n,hk1,rfl,rfl,hnk,hn,hc⟩:=hrel
      by_cases hlt:k<kinds.length
      ·obtain ⟨b,o,rfl,hb,hcell⟩:=hkd.out.byte hlt
       have hkz:(k:Int)<(kinds.length:Int):=by omega
       have hp:=mu hlt
       rw [hn.out] at hp
       have hN:=aa (fun (g:dS kinds[k]=true)=>show ar (aZ dS kinds) (k+1)=true from by rw [ar,hc.out,am _ hlt,g];rfl)
       have hlo:=aa (fun (g:dS kinds[k]=false)=>show ar (aZ dS kinds) kinds.length=false from ba hlt (by rw [am _ hlt];exact g))
       generalize kinds[k]=x at*
       by_cases c1:1≤x∧x≤3
       ·obtain ⟨c2,c3⟩:=c1
        replace hN:=aa (hN.out (by simp [dS,c2,c3]))
        have c2z:¬x<1:=by omega
        have c3z:¬3<x:=by omega
        by_cases c4:x=2
        ·subst c4
         rw [if_pos rfl] at hp
         replace hp:=aa hp
         go_wp2
         go_round
         case rel=>exact ⟨k+1,n+1,by omega,by go_num,by go_num,by omega,hp,hN⟩
         case measure=>simp [intOf];omega
        ·have c4z:(x==2)=false:=beq_eq_false_iff_ne.2 c4
         rw [if_neg c4,Nat.add_zero] at hp
         replace hp:=aa hp
         go_wp2
         go_round
         case rel=>exact ⟨k+1,n,by omega,by go_num,rfl,by omega,hp,hN⟩
         case measure=>simp [intOf];omega
       ·replace hlo:=aa (hlo.out (by simp only [dS,Ib,decide_eq_false_iff_not];omega))
        rw [hlo.out,Hu,Hu,Hu,Hu,Hu] at hv0
        clear hp
        by_cases c2:x<1
        ·go_wp2
         all_goals first|(go_ret;exact ⟨ad hv0.out.symm,hbw.out⟩)|(exfalso;omega)
        ·have c3:3<x:=by omega
         go_wp2
         all_goals first|(go_ret;exact ⟨ad hv0.out.symm,hbw.out⟩)|(exfalso;omega)
      ·have hke:k=kinds.length:=by omega
       rw [hke] at hc
       rw [hke,H7] at hn
       rw [hc.out,hn.out,Hx] at hv0
       by_cases b1:n≤1
       ·have b1z:(n:Int)≤1:=by omega
        rw [decide_eq_true b1,Hx] at hv0
        by_cases b2:1≤acts.length
        ·have b2z:(1:Int)≤(acts.length:Int):=by omega
         rw [decide_eq_true b2,Hx] at hv0
         by_cases b3:acts.length≤16
         ·have b3z:(acts.length:Int)≤16:=by omega
          rw [decide_eq_true b3,Hx] at hv0
          cases S with
          |false=>
           rw [Hu] at hv0
           go_wp2_with (go_at_call 37;refine hDi.out.mono ?_;rintro e w' ⟨rfl,rfl⟩)
           go_ret
           exact ⟨ad hv0.out.symm,hbw.out⟩
          |true=>
           rw [Hx] at hv0
           cases R
           all_goals
            go_wp2_with (first|(go_at_call 37;refine hDi.out.mono ?_;rintro e w' ⟨rfl,rfl⟩)|(go_at_call 99;refine hR.out.mono ?_;rintro e w5 ⟨rfl,hb5⟩))
            go_ret
            exact ⟨ad hv0.out.symm,hbw.out.trans (hb5.mono hbw.out.size)⟩
         ·have b3z:¬(acts.length:Int)≤16:=by omega
          rw [decide_eq_false b3,Hu,Hu] at hv0
          go_wp2
          go_ret
          exact ⟨ad hv0.out.symm,hbw.out⟩
        ·have b2z:¬(1:Int)≤(acts.length:Int):=by omega
         rw [decide_eq_false b2,Hu,Hu,Hu] at hv0
         go_wp2
         go_ret
         exact ⟨ad hv0.out.symm,hbw.out⟩
       ·have b1z:¬(n:Int)≤1:=by omega
        rw [decide_eq_false b1,Hu,Hu,Hu,Hu] at hv0
        go_wp2
        go_ret
        exact ⟨ad hv0.out.symm,hbw.out⟩
    ·have a3z:((kinds.length:Int) !=(ks.length:Int))=true:=by rw [bne_iff_ne];omega
     rw [decide_eq_false a3,Hu,Hu,Hu,Hu,Hu,Hu] at hv0
     go_wp2
     go_ret
     exact ⟨ad hv0.out.symm,hbw.out⟩
  ·have a1b:=decide_eq_false a1
   rw [a1b,Hu,Hu,Hu,Hu,Hu,Hu,Hu,Hu] at hv0
   rw [a1b]
   go_wp2
   go_ret
   exact ⟨ad hv0.out.symm,hbw.out⟩
theorem aF {w:World} {a:Nat} {v0 v1 v2 v3 v4 v5 v6 v7 v8 v9 v10 v11:Value} (h:∀ i,w.cell? ⟨a,i,none⟩=(#[v0,v1,v2,v3,v4,v5,v6,v7,v8,v9,v10,v11]:Array Value)[i]?):
  w.cell? ⟨a,0,none⟩=some v0∧w.cell? ⟨a,1,none⟩=some v1∧w.cell? ⟨a,2,none⟩=some v2∧w.cell? ⟨a,3,none⟩=some v3∧w.cell? ⟨a,4,none⟩=some v4∧w.cell? ⟨a,5,none⟩=some v5∧w.cell? ⟨a,6,none⟩=some v6∧w.cell? ⟨a,7,none⟩=some v7∧w.cell? ⟨a,8,none⟩=some v8∧w.cell? ⟨a,9,none⟩=some v9∧w.cell? ⟨a,10,none⟩=some v10∧w.cell? ⟨a,11,none⟩=some v11:=
 ⟨h 0,h 1,h 2,h 3,h 4,h 5,h 6,h 7,h 8,h 9,h 10,h 11⟩
theorem xw:∀ args w,(callFunc 40 args).run prog w=.ok (.enter 40 args) w:=enters_of func40 (by kernel_rfl) rfl
theorem xx:∀ args w,(callFunc 44 args).run prog w=.ok (.enter 44 args) w:=enters_of func44 (by kernel_rfl) rfl
theorem rC (A1 A2 A3 A4 A5 A6 A7 A8 A9 A10 A11 A12:Option Addr) (p:Lp) (c1 c2 c3 c4 c5 c6 c7 c8 c9 c10 c11 c12:Nat) (s:j8) (P1 P2 P3:Option Addr) (d1 d2 d3 x:Nat) (w:World) (h:cz w w.heap.size A1 A2 A3 A4 A5 A6 A7 A8 A9 A10 A11 A12 p) (lx:x<w.heap.size) (Y:∀ i,w.cell? ⟨x,i,none⟩=((aO A1 A2 A3 A4 A5 A6 A7 A8 A9 A10 A11 A12 p c1 c2 c3 c4 c5 c6 c7 c8 c9 c10 c11 c12):Array Value)[i]?) (h1:Sl 1 bc w w.heap.size P1 s.takes) (h2:Sl 1 pT w w.heap.size P2 s.keys) (h3:Sl 2 vM w w.heap.size P3 s.brs) (h4:s.keys.length≤sm):
  Calls prog 40 #[.agg #[.slice P1 s.takes.length d1,.slice P2 s.keys.length d2,.slice P3 s.brs.length d3,.int .i64 s.to],.pointer (some ⟨x,0,none⟩)] w fun e w'=>e=.returned (.bool (!ej p s))∧Below w.heap.size w w':=by
 obtain ⟨wa,hwa,hsa,hba,hca,-⟩:=af w #[.slice P1 s.takes.length d1,.slice P2 s.keys.length d2,.slice P3 s.brs.length d3,.int .i64 s.to] 79
 obtain ⟨b0,b1,b2,b3⟩:=ig hca
 obtain ⟨y0,y1,y2,y3,y4,y5,y6,y7,y8,y9,y10,y11⟩:=aF fun i=>(hba.cell (p:=⟨x,i,none⟩) lx).trans (Y i)
 have hC:=aa (rB A1 A2 A3 A4 A5 A6 A7 A8 A9 A10 A11 A12 p c1 c2 c3 c4 c5 c6 c7 c8 c9 c10 c11 c12 s P1 P2 P3 d1 d2 d3 wa ((h.below hba).more hba.size) ((h1.below ah hba).more ah hba.size) ((h2.below aV hba).more aV hba.size) ((h3.below bZ hba).more bZ hba.size) h4)
 have hl:=Hr lx hba.size
 have hl2:w.heap.size<wa.heap.size:=by omega
 replace hba:=aa hba
 replace hsa:=aa hsa
 clear hca Y h h1 h2 h3
 go_enter func40,ntmps40
 go_wp2_with (go_at_call 41;refine hC.out.mono ?_;rintro e w3 ⟨rfl,hb3⟩)
 go_ret
 exact ⟨rfl,hba.out.trans (hb3.mono hba.out.size)⟩
theorem tL (A1 A2 A3 A4 A5 A6 A7 A8 A9 A10 A11 A12:Option Addr) (p:Lp) (c1 c2 c3 c4 c5 c6 c7 c8 c9 c10 c11 c12:Nat) (t:fJ) (P1 P2 P3 P4:Option Addr) (d1 d2 d3 d4 x:Nat) (w:World) (h:cz w w.heap.size A1 A2 A3 A4 A5 A6 A7 A8 A9 A10 A11 A12 p) (lx:x<w.heap.size) (Y:∀ i,w.cell? ⟨x,i,none⟩=((aO A1 A2 A3 A4 A5 A6 A7 A8 A9 A10 A11 A12 p c1 c2 c3 c4 c5 c6 c7 c8 c9 c10 c11 c12):Array Value)[i]?) (h1:Sl 1 pT w w.heap.size P1 t.keys) (h2:Sl 1 B8 w w.heap.size P2 t.kinds) (h3:Sl 1 bc w w.heap.size P3 t.acts) (h4:Sl 2 f8 w w.heap.size P4 t.run.args) (h5:t.keys.length≤sm):
  Calls prog 44 #[.agg #[.slice P1 t.keys.length d1,.slice P2 t.kinds.length d2,.slice P3 t.acts.length d3,.int .i64 t.run.act,.slice P4 t.run.args.length d4],.pointer (some ⟨x,0,none⟩)] w fun e w'=>e=.returned (.bool (!ij p t))∧Below w.heap.size w w':=by
 obtain ⟨wa,hwa,hsa,hba,hca,-⟩:=af w #[.slice P1 t.keys.length d1,.slice P2 t.kinds.length d2,.slice P3 t.acts.length d3,.int .i64 t.run.act,.slice P4 t.run.args.length d4] 88
 obtain ⟨b0,b1,b2,b3,b4⟩:=p8 hca
 obtain ⟨y0,y1,y2,y3,y4,y5,y6,y7,y8,y9,y10,y11⟩:=aF fun i=>(hba.cell (p:=⟨x,i,none⟩) lx).trans (Y i)
 have hC:=aa (tK A1 A2 A3 A4 A5 A6 A7 A8 A9 A10 A11 A12 p c1 c2 c3 c4 c5 c6 c7 c8 c9 c10 c11 c12 t P1 P2 P3 P4 d1 d2 d3 d4 wa ((h.below hba).more hba.size) ((h1.below aV hba).more aV hba.size) ((h2.below cw hba).more cw hba.size) ((h3.below ah hba).more ah hba.size) ((h4.below aq hba).more aq hba.size) h5)
 have hl:=Hr lx hba.size
 have hl2:w.heap.size<wa.heap.size:=by omega
 replace hba:=aa hba
 replace hsa:=aa hsa
 clear hca Y h h1 h2 h3 h4
 go_enter func44,ntmps44
 go_wp2_with (go_at_call 45;refine hC.out.mono ?_;rintro e w3 ⟨rfl,hb3⟩)
 go_ret
 exact ⟨rfl,hba.out.trans (hb3.mono hba.out.size)⟩
theorem xy (A1 A2 A3 A4 A5 A6 A7 A8 A9 A10 A11 A12:Option Addr) (p:Lp) (c1 c2 c3 c4 c5 c6 c7 c8 c9 c10 c11 c12:Nat) (x:Nat) (w:World) (h:cz w w.heap.size A1 A2 A3 A4 A5 A6 A7 A8 A9 A10 A11 A12 p) (lx:x<w.heap.size) (Y:∀ i,w.cell? ⟨x,i,none⟩=((aO A1 A2 A3 A4 A5 A6 A7 A8 A9 A10 A11 A12 p c1 c2 c3 c4 c5 c6 c7 c8 c9 c10 c11 c12):Array Value)[i]?):
  Calls prog 39 #[.slice A3 p.steps.length c3,.func (.func 40) #[] #[.pointer (some ⟨x,0,none⟩)]] w fun e w'=>e=.returned (.bool (!p.steps.all (ej p)))∧Below w.heap.size w w':=by
 rw [←je]
 refine mr 40 _ xw (fun s=> !ej p s) A3 c3 p.steps w h.steps fun s W cs _ hW hr=> ?_
 obtain ⟨P1,P2,P3,d1,d2,d3,rfl,hs1,hs2,hs3,hs4⟩:=hr
 exact rC A1 A2 A3 A4 A5 A6 A7 A8 A9 A10 A11 A12 p c1 c2 c3 c4 c5 c6 c7 c8 c9 c10 c11 c12 s P1 P2 P3 d1 d2 d3 x W ((h.below hW).more hW.size) (Hr lx hW.size) (fun i=>(hW.cell (p:=⟨x,i,none⟩) lx).trans (Y i)) hs1 hs2 hs3 hs4
theorem AD (A1 A2 A3 A4 A5 A6 A7 A8 A9 A10 A11 A12:Option Addr) (p:Lp) (c1 c2 c3 c4 c5 c6 c7 c8 c9 c10 c11 c12:Nat) (x:Nat) (w:World) (h:cz w w.heap.size A1 A2 A3 A4 A5 A6 A7 A8 A9 A10 A11 A12 p) (lx:x<w.heap.size) (Y:∀ i,w.cell? ⟨x,i,none⟩=((aO A1 A2 A3 A4 A5 A6 A7 A8 A9 A10 A11 A12 p c1 c2 c3 c4 c5 c6 c7 c8 c9 c10 c11 c12):Array Value)[i]?):
  Calls prog 43 #[.slice A5 p.tabs.length c5,.func (.func 44) #[] #[.pointer (some ⟨x,0,none⟩)]] w fun e w'=>e=.returned (.bool (!p.tabs.all (ij p)))∧Below w.heap.size w w':=by
 rw [←je]
 refine mt 44 _ xx (fun s=> !ij p s) A5 c5 p.tabs w h.tabs fun s W cs _ hW hr=> ?_
 obtain ⟨P1,P2,P3,P4,d1,d2,d3,d4,rfl,hs1,hs2,hs3,hs4,hs5,-⟩:=hr
 exact tL A1 A2 A3 A4 A5 A6 A7 A8 A9 A10 A11 A12 p c1 c2 c3 c4 c5 c6 c7 c8 c9 c10 c11 c12 s P1 P2 P3 P4 d1 d2 d3 d4 x W ((h.below hW).more hW.size) (Hr lx hW.size) (fun i=>(hW.cell (p:=⟨x,i,none⟩) lx).trans (Y i)) hs1 hs2 hs3 hs4 hs5
theorem CS {p:Lp} (h:p.steps.all (ej p)=true):∀ s∈p.steps,s.brs.length≤1000:=fun s hs=>by
 have h1:=HT.1 h s hs
 unfold ej at h1
 cases hk:f6 (eO p (-1)) s.keys with
 |none=>rw [hk] at h1;cases h1
 |some ws=>
  rw [hk] at h1
  simp only [Hy] at h1
  have h2:=h1.2
  split at h2
  ·have:=of_decide_eq_true h2;omega
  ·simp only [Hy,decide_eq_true_eq] at h2;omega
theorem Sl.ltb {w:World} {B:Nat} {A:Option Addr} {xs:List fJ} (h:Sl 5 oX w B A xs) {i:Nat} (hi:i<xs.length):∃ b o A1 A2 A3 A4 c1 c2 c3 c4,A=some ⟨b,o,none⟩∧b<B∧w.cell? ⟨b,o+i*5,none⟩=some (.slice A1 xs[i].keys.length c1)∧w.cell? ⟨b,o+i*5+1,none⟩=some (.slice A2 xs[i].kinds.length c2)∧w.cell? ⟨b,o+i*5+2,none⟩=some (.slice A3 xs[i].acts.length c3)∧w.cell? ⟨b,o+i*5+3,none⟩=some (.int .i64 xs[i].run.act)∧w.cell? ⟨b,o+i*5+4,none⟩=some (.slice A4 xs[i].run.args.length c4)∧
  Sl 1 pT w B A1 xs[i].keys∧Sl 1 B8 w B A2 xs[i].kinds∧Sl 1 bc w B A3 xs[i].acts∧Sl 2 f8 w B A4 xs[i].run.args∧xs[i].acts.length≤c3:=by
 obtain ⟨b,o,ecs,hA,hb,hl,hc,A1,A2,A3,A4,c1,c2,c3,c4,rfl,h1,h2,h3,h4,h5,h6⟩:=h.2 i xs[i] (HA hi)
 exact ⟨b,o,A1,A2,A3,A4,c1,c2,c3,c4,hA,hb,hc 0 _ rfl,hc 1 _ rfl,hc 2 _ rfl,hc 3 _ rfl,hc 4 _ rfl,h1,h2,h3,h4,h6⟩
def pB:Int→List mW→Int
 |n,[]=>n
 |n,x::l=>pB (wrap64 (n+x.e.length)) l
theorem j4 (A:Option Addr) (cap:Nat) (l:List mW) (w:World) (h:Sl 5 m7 w w.heap.size A l):
  Calls prog 26 #[.slice A l.length cap] w fun e w'=>e=.returned (.int .i64 (pB l.length l))∧w=w':=by
 have hl:=h.len
 go_enter func26,ntmps26
 go_wp2
 go_loop [3,4] (fun s i=>∃ (k:Nat) (n:Int),k≤l.length∧i=.int .i64 k∧s=.int .i64 n∧Hid (pB n (l.drop k)=pB l.length l)) (fun _ i=>l.length-(intOf i).toNat)
 case atStart=>exact ⟨0,_,Hz _,rfl,rfl,aa rfl⟩
 case round=>
  obtain ⟨k,n,hk,rfl,rfl,hc⟩:=hrel
  by_cases hlt:k<l.length
  ·obtain ⟨b,o,A',c',rfl,hb,n0,n1,n2,n3,n4,hE⟩:=h.ins hlt
   have hkz:(k:Int)<(l.length:Int):=by omega
   have le:=hE.len
   have hN:=aa (show pB (wrap64 (n+l[k].e.length)) (l.drop (k+1))=pB l.length l from by rw [←hc.out,Iu hlt];rfl)
   generalize l[k]=x at n3 le hN
   clear n0 n1 n2 n4 hE
   go_wp2
   go_round
   case rel=>exact ⟨k+1,_,by omega,by go_num,rfl,hN⟩
   case measure=>simp [intOf];omega
  ·have hke:k=l.length:=by omega
   subst hke
   have hf:=aa (show n=pB l.length l from by rw [←hc.out,List.drop_length];rfl)
   go_wp2
   go_ret
   exact ⟨by rw [hf.out]<;>rfl,rfl⟩
theorem tN (A1 A2 A3 A4 A5 A6 A7 A8 A9 A10 A11 A12:Option Addr) (p:Lp) (c1 c2 c3 c4 c5 c6 c7 c8 c9 c10 c11 c12:Nat) (w:World) (h:cz w w.heap.size A1 A2 A3 A4 A5 A6 A7 A8 A9 A10 A11 A12 p):
  Calls prog 15 #[.agg (aO A1 A2 A3 A4 A5 A6 A7 A8 A9 A10 A11 A12 p c1 c2 c3 c4 c5 c6 c7 c8 c9 c10 c11 c12)] w fun e w'=>(∃ b,e=.returned (.bool b))∧Below w.heap.size w w':=by
 unfold aO
 have l0:=h.heads.len
 have l1:=h.metas.len
 have l2:=h.steps.len
 have l3:=h.acts.len
 have l4:=h.tabs.len
 have l5:=h.control.len
 have l6:=h.emit.len
 obtain ⟨wz,hwz,hsz,hbz,hcz,-⟩:=af w (aO A1 A2 A3 A4 A5 A6 A7 A8 A9 A10 A11 A12 p c1 c2 c3 c4 c5 c6 c7 c8 c9 c10 c11 c12) 33
 have hl1:w.heap.size<wz.heap.size:=by omega
 obtain ⟨y0,y1,y2,y3,y4,y5,y6,-,-,-,-,-⟩:=aF hcz
 have hP:=(h.below hbz).more (B':=wz.heap.size) hbz.size
 have hP0:=aa hP.heads
 have hP2:=aa hP.steps
 have hP3:=aa hP.acts
 have hP4:=aa hP.tabs
 have hWc:=aa (fun m=>j4 A6 c6 p.control (wz.drewN m) ((hP.control.drewN bz m).more bz (by simp)))
 generalize pB p.control.length p.control=W0 at hWc
 have hgo:=aa (fun W (hW:Below wz.heap.size wz W)=>hbz.trans (hW.mono hbz.size))
 replace hsz:=aa hsz
 clear hcz hbz h hP
 go_enter func15,ntmps15
 go_wp2_with fail
 go_quiet ((go_at_call 26;with_reducible exact cZ (hWc.out _)))
 go_wp2
 go_loopw [3,4] (fun s i wr=>∃ (k:Nat) (n:Int),k≤p.heads.length∧i=.int .i64 k∧s=.int .i64 n∧Hid (Below wz.heap.size wz wr)) (fun _ i _=>p.heads.length-(intOf i).toNat)
 case atStart=>exact ⟨0,_,Hz _,rfl,rfl,aa (au (Hs _ _) _)⟩
 case round=>
  obtain ⟨k,n,hk,rfl,rfl,hI⟩:=hrel
  have kbr:=ae hI.out
  by_cases hlt:k<p.heads.length
  ·have hkz:(k:Int)<(p.heads.length:Int):=by omega
   have q0:=(kbr.1 _ 0 hl1).trans y0
   obtain ⟨b,o,A',c',hA,hb,hcell,hE⟩:=hP0.out.ints hlt
   subst hA
   have le:=hE.len
   have n0:=(kbr.1 _ (o+k) hb).trans hcell
   generalize p.heads[k]=x at n0 le hcell hE
   clear kbr hcell hE
   go_wp2
   go_roundw
   case rel=>exact ⟨k+1,_,by omega,by go_num,rfl,hI⟩
   case measure=>simp [intOf];omega
  ·have hke:k=p.heads.length:=by omega
   subst hke
   have q0:=(kbr.1 _ 0 hl1).trans y0
   obtain ⟨w2,rfl⟩:∃ w2:World,w2=wr:=⟨_,rfl⟩
   clear kbr
   generalize p.heads.length=kh at*
   go_wp2
   clear q0 y0
   go_loopw [3,5,6,7] (fun s i _ _ wr=>∃ (k:Nat) (n:Int),k≤p.steps.length∧i=.int .i64 k∧s=.int .i64 n∧Hid (Below wz.heap.size wz wr)) (fun _ i _ _ _=>p.steps.length-(intOf i).toNat)
   case atStart=>exact ⟨0,_,Hz _,rfl,rfl,hI⟩
   case round=>
    obtain ⟨k,n,hk,rfl,rfl,hI⟩:=hrel
    have kbr:=ae hI.out
    have q2:=(kbr.1 _ 2 hl1).trans y2
    by_cases hlt:k<p.steps.length
    ·have hkz:(k:Int)<(p.steps.length:Int):=by omega
     obtain ⟨b,o,A1',A2',A3',c1',c2',c3',hA,hb,e0,e1,e2,e3,hs1,hs2,hs3,-⟩:=hP2.out.stp hlt
     have f0:=(kbr.1 _ (o+k*4) hb).trans e0
     have f1:=(kbr.1 _ (o+k*4+1) hb).trans e1
     have f2:=(kbr.1 _ (o+k*4+2) hb).trans e2
     have le1:=hs1.len
     have le2:=hs2.len
     have le3:=hs3.len
     subst hA
     generalize p.steps[k]=x at e0 e1 e2 e3 f0 f1 f2 le1 le2 le3 hs1 hs2 hs3
     clear kbr e0 e3
     go_wp2_with fail
     go_quiet (fail)
     have hI2:=aa (au hI.out nq)
     generalize wr.drewN nq=w3 at hI2
     have kb3:=ae hI2.out
     have q2':=(kb3.1 _ 2 hl1).trans y2
     have f1':=(kb3.1 _ (o+k*4+1) hb).trans e1
     clear kb3 q2 f0 f1 f2
     go_wp2
     go_loopw [3,6] (fun s i wr=>∃ (j:Nat) (n:Int),j≤x.keys.length∧i=.int .i64 j∧s=.int .i64 n∧Hid (Below wz.heap.size wz wr)) (fun _ i _=>x.keys.length-(intOf i).toNat)
     case atStart=>exact ⟨0,_,Hz _,rfl,rfl,hI2⟩
     case round=>
      obtain ⟨j,n,hj,rfl,rfl,hJ⟩:=hrel
      have kbj:=ae hJ.out
      have r2:=(kbj.1 _ 2 hl1).trans y2
      have t1:=(kbj.1 _ (o+k*4+1) hb).trans e1
      have t2:=(kbj.1 _ (o+k*4+2) hb).trans e2
      by_cases hjt:j<x.keys.length
      ·have hjz:(j:Int)<(x.keys.length:Int):=by omega
       obtain ⟨g,og,A',c',hA,hg,hcell,hE⟩:=hs2.code hjt
       subst hA
       have le:=hE.len
       have n0:=(kbj.1 _ (og+j) hg).trans hcell
       generalize x.keys[j]=z at n0 le hcell hE
       clear kbj hcell hE
       go_wp2
       go_roundw
       case rel=>exact ⟨j+1,_,by omega,by go_num,rfl,hJ⟩
       case measure=>simp [intOf];omega
      ·have hje:j=x.keys.length:=by omega
       subst hje
       obtain ⟨w4,rfl⟩:∃ w4:World,w4=wr:=⟨_,rfl⟩
       clear kbj q2' f1'
       go_wp2
       clear r2 t1 t2
       go_loopw [3,7] (fun s i wr=>∃ (j:Nat) (n:Int),j≤x.brs.length∧i=.int .i64 j∧s=.int .i64 n∧Hid (Below wz.heap.size wz wr)) (fun _ i _=>x.brs.length-(intOf i).toNat)
       case atStart=>exact ⟨0,_,Hz _,rfl,rfl,hJ⟩
       case round=>
        obtain ⟨j,n,hj,rfl,rfl,hJ⟩:=hrel
        have kbj:=ae hJ.out
        have r2:=(kbj.1 _ 2 hl1).trans y2
        have t2:=(kbj.1 _ (o+k*4+2) hb).trans e2
        by_cases hjt:j<x.brs.length
        ·have hjz:(j:Int)<(x.brs.length:Int):=by omega
         obtain ⟨g,og,A',c',hA,hg,hcell,hcell2,hE⟩:=hs3.br hjt
         subst hA
         have le:=hE.len
         have n0:=(kbj.1 _ (og+j*2) hg).trans hcell
         generalize x.brs[j]=z at n0 le hcell hcell2 hE
         clear kbj hcell hcell2 hE
         go_wp2
         go_roundw
         case rel=>exact ⟨j+1,_,by omega,by go_num,rfl,hJ⟩
         case measure=>simp [intOf];omega
        ·have hje:j=x.brs.length:=by omega
         subst hje
         go_wp2
         go_roundw
         case rel=>exact ⟨k+1,_,by omega,by go_num,rfl,hJ⟩
         case measure=>simp [intOf];omega
    ·have hke:k=p.steps.length:=by omega
     subst hke
     obtain ⟨w5,rfl⟩:∃ w5:World,w5=wr:=⟨_,rfl⟩
     clear kbr
     generalize p.steps.length=ks at*
     go_wp2
     clear q2 y2
     go_loopw [3,8] (fun s i wr=>∃ (k:Nat) (n:Int),k≤p.acts.length∧i=.int .i64 k∧s=.int .i64 n∧Hid (Below wz.heap.size wz wr)) (fun _ i _=>p.acts.length-(intOf i).toNat)
     case atStart=>exact ⟨0,_,Hz _,rfl,rfl,hI⟩
     case round=>
      obtain ⟨k,n,hk,rfl,rfl,hI⟩:=hrel
      have kbr:=ae hI.out
      have hzr:=hI.out.size
      have q3:=(kbr.1 _ 3 hl1).trans y3
      by_cases hlt:k<p.acts.length
      ·have hkz:(k:Int)<(p.acts.length:Int):=by omega
       obtain ⟨b,o,A1',A2',c1',c2',hA,hb,e0,e1,hs1,hs2⟩:=hP3.out.act hlt
       have f0:=(kbr.1 _ (o+k*2) hb).trans e0
       have f1:=(kbr.1 _ (o+k*2+1) hb).trans e1
       have le1:=hs1.len
       have le2:=hs2.len
       have hWd:=aa (fun m=>j4 A2' c2' p.acts[k].body (wr.drewN m) ((((hs2.below bz hI.out).more (B':=wr.heap.size) bz hzr).drewN bz m).more bz (by simp)))
       subst hA
       generalize p.acts[k]=x at e0 e1 f0 f1 le1 le2 hs1 hs2 hWd
       generalize pB x.body.length x.body=W1 at hWd
       clear kbr e0 e1 hs1 hs2
       go_wp2_with fail
       go_quiet ((go_at_call 26;with_reducible exact cZ (hWd.out _)))
       go_wp2
       go_roundw
       case rel=>exact ⟨k+1,_,by omega,by go_num,rfl,aa (au hI.out _)⟩
       case measure=>simp [intOf];omega
      ·have hke:k=p.acts.length:=by omega
       subst hke
       obtain ⟨w6,rfl⟩:∃ w6:World,w6=wr:=⟨_,rfl⟩
       clear kbr
       generalize p.acts.length=ka at*
       go_wp2
       clear q3 y3
       go_loopw [3,9,10] (fun s i _ wr=>∃ (k:Nat) (n:Int),k≤p.tabs.length∧i=.int .i64 k∧s=.int .i64 n∧Hid (Below wz.heap.size wz wr)) (fun _ i _ _=>p.tabs.length-(intOf i).toNat)
       case atStart=>exact ⟨0,_,Hz _,rfl,rfl,hI⟩
       case round=>
        obtain ⟨k,n,hk,rfl,rfl,hI⟩:=hrel
        have kbr:=ae hI.out
        have q4:=(kbr.1 _ 4 hl1).trans y4
        by_cases hlt:k<p.tabs.length
        ·have hkz:(k:Int)<(p.tabs.length:Int):=by omega
         obtain ⟨b,o,A1',A2',A3',A4',c1',c2',c3',c4',hA,hb,e0,e1,e2,e3,e4,hs1,hs2,hs3,hs4,-⟩:=hP4.out.ltb hlt
         have f2:=(kbr.1 _ (o+k*5+2) hb).trans e2
         have f4:=(kbr.1 _ (o+k*5+4) hb).trans e4
         have le1:=hs1.len
         have le3:=hs3.len
         have le4:=hs4.len
         subst hA
         generalize p.tabs[k]=x at e0 e1 e2 e3 e4 f2 f4 le1 le3 le4 hs1 hs2 hs3 hs4
         clear kbr e1 e2 e3 e4
         go_wp2_with fail
         go_quiet (fail)
         have hI2:=aa (au hI.out nq)
         generalize wr.drewN nq=w3 at hI2
         have kb3:=ae hI2.out
         have q4':=(kb3.1 _ 4 hl1).trans y4
         have f0':=(kb3.1 _ (o+k*5) hb).trans e0
         clear kb3 q4 f2 f4
         go_wp2
         go_loopw [3,10] (fun s i wr=>∃ (j:Nat) (n:Int),j≤x.keys.length∧i=.int .i64 j∧s=.int .i64 n∧Hid (Below wz.heap.size wz wr)) (fun _ i _=>x.keys.length-(intOf i).toNat)
         case atStart=>exact ⟨0,_,Hz _,rfl,rfl,hI2⟩
         case round=>
          obtain ⟨j,n,hj,rfl,rfl,hJ⟩:=hrel
          have kbj:=ae hJ.out
          have r4:=(kbj.1 _ 4 hl1).trans y4
          have t0:=(kbj.1 _ (o+k*5) hb).trans e0
          by_cases hjt:j<x.keys.length
          ·have hjz:(j:Int)<(x.keys.length:Int):=by omega
           obtain ⟨g,og,A',c',hA,hg,hcell,hE⟩:=hs1.code hjt
           subst hA
           have le:=hE.len
           have n0:=(kbj.1 _ (og+j) hg).trans hcell
           generalize x.keys[j]=z at n0 le hcell hE
           clear kbj hcell hE
           go_wp2
           go_roundw
           case rel=>exact ⟨j+1,_,by omega,by go_num,rfl,hJ⟩
           case measure=>simp [intOf];omega
          ·have hje:j=x.keys.length:=by omega
           subst hje
           go_wp2
           go_roundw
           case rel=>exact ⟨k+1,_,by omega,by go_num,rfl,hJ⟩
           case measure=>simp [intOf];omega
        ·have hke:k=p.tabs.length:=by omega
         subst hke
         go_wp2
         all_goals go_ret
         all_goals exact ⟨⟨_,rfl⟩,hgo.out _ hI.out⟩
end Go.Proofs.YtijcdfdbkffiaaaGreatDoor

import Derived.Test.YtiebolhmdhdagaaGreatDoorEwp36
import Derived.Test.YtiebolhmdhdagaaGreatDoorEwp23
import Derived.Test.YtiebolhmdhdagaaGreatDoorEwp37
set_option linter.all false
set_option maxHeartbeats 8000000
set_option maxRecDepth 100000
open Go.Proofs.Tryz
namespace Go.Proofs.YtiebolhmdhdagaaGreatDoor
open _root_.Nat renaming lt_of_lt_of_le→He, le_refl→Hh, le_trans→Hj, zero_le→Hm
open _root_.Go.RowKit.Below renaming refl→Hf
open _root_.Bool renaming false_and→Hg, true_and→Hk, and_eq_true→Hl
open _root_.Go.Calls renaming regrown_of→Hi
open _root_.Go.Sort renaming grow→Ht
open _root_.List renaming getElem_of_mem→Hw, mem_map→HN, mem_append→H0, eq_nil_of_length_eq_zero→H8
open _root_.Option renaming getD_some→H9
open Go.RowKit
theorem yX {p:Lp} {x:lI} (h:eJ p x=true):x.brs.length≤1000:=by
 unfold eJ at h
 simp only [Hl] at h
 have h2:=h.2
 split at h2
 ·have:=of_decide_eq_true h2;omega
 ·simp only [Hl,decide_eq_true_eq] at h2
  omega
theorem BU {p:Lp} {x:lI} (h:eJ p x=true):∀ t∈jp x,t<p.steps.length:=by
 intro t ht
 unfold eJ at h
 simp only [Hl,decide_eq_true_eq] at h
 obtain ⟨⟨⟨⟨h1,h2⟩,h3⟩,h4⟩,h5⟩:=h
 simp only [gJ,Hl,decide_eq_true_eq] at h3
 unfold jp at ht
 rcases H0.1 ht with ht|ht
 ·split at ht
  ·simp at ht;omega
  ·simp at ht
 ·obtain ⟨b,hb,rfl⟩:=HN.1 ht
  split at h5
  ·have:x.brs= []:=H8 (of_decide_eq_true h5)
   rw [this] at hb;simp at hb
  ·rename_i hk0
   simp only [Hl,decide_eq_true_eq] at h5
   obtain ⟨i,hi,rfl⟩:=Hw hb
   have hk:=(aF _ _).1 h5.2 0 (by omega)
   unfold mM at hk
   rw [ag _ (show 0<x.keys.length by omega)] at hk
   cases hw:jm p (-1) x.keys[0] with
   |none=>rw [hw] at hk;cases hk
   |some w=>
    rw [hw] at hk
    simp only at hk
    have hb2:=(aF _ _).1 hk i hi
    rw [ag _ hi] at hb2
    simp only [Cs,gJ,Hl,decide_eq_true_eq] at hb2
    exact hb2.1.1.2
theorem tJ {p:Lp} (h:am (aK (eJ p) p.steps) p.steps.length=true):∀ i,∀ t∈bk p.steps i,t<p.steps.length:=by
 intro i t ht
 unfold bk at ht
 cases hn:eG p.steps i with
 |none=>rw [hn] at ht;simp at ht
 |some s=>
  rw [hn] at ht
  simp only [Option.map_some,H9] at ht
  obtain ⟨j,hj,rfl⟩:=Hw (gh hn)
  have:=(aF _ _).1 h j hj
  rw [ag _ hj] at this
  exact BU this t ht
theorem yY {p:Lp} (h:am (aK (eJ p) p.steps) p.steps.length=true):∀ x∈p.steps,x.brs.length≤1000:=by
 intro x hx
 obtain ⟨j,hj,rfl⟩:=Hw hx
 have:=(aF _ _).1 h j hj
 rw [ag _ hj] at this
 exact yX this
theorem BV (A1 A2 A3 A4 A5 A6 A7 A8 A9 A10 A11 A12:Option Addr) (p:Lp) (c1 c2 c3 c4 c5 c6 c7 c8 c9 c10 c11 c12:Nat) (w:World) (h:cJ w w.heap.size A1 A2 A3 A4 A5 A6 A7 A8 A9 A10 A11 A12 p) (hE:p.emit.length≤c7):
  Calls prog 22 #[.agg #[.slice A1 p.heads.length c1,.slice A2 p.metas.length c2,.slice A3 p.steps.length c3,.slice A4 p.acts.length c4,.slice A5 p.tabs.length c5,.slice A6 p.control.length c6,.slice A7 p.emit.length c7,.slice A8 p.nh.length c8,.slice A9 p.nf.length c9,.slice A10 p.nm.length c10,.slice A11 p.na.length c11,.slice A12 p.nt.length c12]] w fun e w'=>e=.returned (.bool (iG p))∧Below w.heap.size w w':=by
 have l0:=h.heads.len
 have l1:=h.metas.len
 have l2:=h.steps.len
 have l3:=h.acts.len
 have l4:=h.tabs.len
 have lm:=h.nm.len
 have la:=h.na.len
 have lt:=h.nt.len
 obtain ⟨wz,hwz,hsz,hbz,hcz,-⟩:=ak w #[.slice A1 p.heads.length c1,.slice A2 p.metas.length c2,.slice A3 p.steps.length c3,.slice A4 p.acts.length c4,.slice A5 p.tabs.length c5,.slice A6 p.control.length c6,.slice A7 p.emit.length c7,.slice A8 p.nh.length c8,.slice A9 p.nf.length c9,.slice A10 p.nm.length c10,.slice A11 p.na.length c11,.slice A12 p.nt.length c12] 33
 obtain ⟨wa,hwa,hsa,hba,hca,-⟩:=ak wz #[.slice A8 p.nh.length c8,.slice A9 p.nf.length c9,.slice A10 p.nm.length c10,.slice A11 p.na.length c11,.slice A12 p.nt.length c12] 31
 have k0:w.heap.size<wz.heap.size:=by omega
 obtain ⟨z0,z1,z2,z3,z4,z5,z6,z7,z8,z9,z10,z11⟩:=aC hcz
 obtain ⟨y0,y1,y2,y3,y4,y5,y6,y7,y8,y9,y10,y11⟩:=aC fun i=>(hba.cell (p:=⟨w.heap.size,i,none⟩) k0).trans (hcz i)
 obtain ⟨x0,x1,x2,x3,x4⟩:=rB hca
 have hl1:w.heap.size<wa.heap.size:=by omega
 have hl2:wz.heap.size<wa.heap.size:=by omega
 have hw:Below w.heap.size w wa:=hbz.trans (hba.mono (by omega))
 have hP:∀ W,Below wa.heap.size wa W→cJ W W.heap.size A1 A2 A3 A4 A5 A6 A7 A8 A9 A10 A11 A12 p:=fun W hW=>((h.below hw).below (hW.mono hw.size)).more (Hj hw.size hW.size)
 have hgo:=aa (fun W (hW:Below wa.heap.size wa W)=>hw.trans (hW.mono hw.size))
 have hv:=aa (show iG p=(iP p&&(decide (p.metas.length≤16)&&(p.metas.all aj&&(decide (p.nm.length=p.metas.length)&&(decide (p.na.length=p.acts.length)&&(decide (p.nt.length=p.tabs.length)&&
  (decide (1≤p.steps.length)&&(decide (p.steps.length≤16)&&(decide (p.acts.length≤16)&&(decide (p.tabs.length≤8)&&(oH p.emit p.heads.length&&(fs p (-1) p.control&&
  (am (aK (eJ p) p.steps) p.steps.length&&(am (fun i=> !oJ p.steps (i:Nat)) p.steps.length&&(am (fun i=>aK (zW p i) p.acts i) p.acts.length&&am (aK (oI p) p.tabs) p.tabs.length))))))))))))))) from by
  unfold iG eh;simp only [Bool.and_assoc])
 have hH:=aa (fun W hW=>uW A1 A2 A3 A4 A5 A6 A7 A8 A9 A10 A11 A12 p c1 c2 c3 c4 c5 c6 c7 c8 c9 c10 c11 c12 W (hP W hW))
 have hW:=aa (fun W hW=>ja A2 c2 p.metas W (hP W hW).metas)
 have hD:=aa (fun W hW=>qd A7 c7 p.emit p.heads.length W (hP W hW).emit hE)
 have hC:=aa (fun W hW=>iM A1 A2 A3 A4 A5 A6 A7 A8 A9 A10 A11 A12 p c1 c2 c3 c4 c5 c6 c7 c8 c9 c10 c11 c12 (-1) p.control A6 c6 W (hP W hW) (hP W hW).control)
 have hSt:=aa (fun x P1 P2 P3 d1 d2 d3 W hW h1 h2 h3=>qZ A1 A2 A3 A4 A5 A6 A7 A8 A9 A10 A11 A12 p c1 c2 c3 c4 c5 c6 c7 c8 c9 c10 c11 c12 x P1 P2 P3 d1 d2 d3 W (hP W hW) h1 h2 h3)
 have hCy:=aa (fun s W hW hs hg hb h16=>tI A1 A2 A3 A4 A5 A6 A7 A8 A9 A10 A11 A12 p c1 c2 c3 c4 c5 c6 c7 c8 c9 c10 c11 c12 s W (hP W hW) hs hg hb h16)
 have hIa:=aa (fun act l A c W hW hL=>iM A1 A2 A3 A4 A5 A6 A7 A8 A9 A10 A11 A12 p c1 c2 c3 c4 c5 c6 c7 c8 c9 c10 c11 c12 act l A c W (hP W hW) hL)
 have hTa:=aa (fun x P1 P2 P3 P4 d1 d2 d3 d4 W hW h1 h2 h3 h4 h5=>tH A1 A2 A3 A4 A5 A6 A7 A8 A9 A10 A11 A12 p c1 c2 c3 c4 c5 c6 c7 c8 c9 c10 c11 c12 x P1 P2 P3 P4 d1 d2 d3 d4 W (hP W hW) h1 h2 h3 h4 h5)
 have hPs:=aa (fun W hW=>(hP W hW).steps)
 have hPa:=aa (fun W hW=>(hP W hW).acts)
 have hPt:=aa (fun W hW=>(hP W hW).tabs)
 generalize iG p=RES at hv ⊢
 generalize iP p=H at hH hv
 generalize p.metas.all aj=Q at hW hv
 generalize oH p.emit p.heads.length=D at hD hv
 generalize fs p (-1) p.control=C at hC hv
 replace hw:=aa hw
 replace hsa:=aa hsa
 replace hsz:=aa hsz
 clear hca hcz hbz h hP hba
 go_enter func22,ntmps22
 go_upto_region 2 with fail
 clear z0 z1 z2 z3 z4 z5 z6 z7 z8 z9 z10 z11
 cases H
 focus
  rw [Hg] at hv
  go_wp2_with (go_at_call 61;refine (hH.out _ (Hf _ _)).mono ?_;rintro e w3 ⟨rfl,hb3⟩;have ku:=ah hb3;have u0:=(ku.1 _ 0 hl1).trans y0;have u1:=(ku.1 _ 1 hl1).trans y1;have u2:=(ku.1 _ 2 hl1).trans y2;have u3:=(ku.1 _ 3 hl1).trans y3;have u4:=(ku.1 _ 4 hl1).trans y4;have u5:=(ku.1 _ 5 hl1).trans y5;have u6:=(ku.1 _ 6 hl1).trans y6;have u7:=(ku.1 _ 7 hl1).trans y7;have u8:=(ku.1 _ 8 hl1).trans y8;have u9:=(ku.1 _ 9 hl1).trans y9;have u10:=(ku.1 _ 10 hl1).trans y10;have u11:=(ku.1 _ 11 hl1).trans y11;clear ku;have lyu:=He hl1 hb3.size;have ju:=ah hb3;have ux0:=(ju.1 _ 0 hl2).trans x0;have ux1:=(ju.1 _ 1 hl2).trans x1;have ux2:=(ju.1 _ 2 hl2).trans x2;have ux3:=(ju.1 _ 3 hl2).trans x3;have ux4:=(ju.1 _ 4 hl2).trans x4;clear ju;have lxu:=He hl2 hb3.size)
  go_ret
  exact ⟨ad hv.out.symm,hgo.out _ hb3⟩
 rotate_right
 focus
  rw [Hk] at hv
  by_cases hs1:p.metas.length≤16
  focus
   rw [decide_eq_true hs1,Hk] at hv
   have es1:¬((16:Int)<(p.metas.length:Int)):=by omega
   have ds1:decide ((16:Int)<(p.metas.length:Int))=false:=decide_eq_false es1
   cases Q
   rotate_right
   focus
    rw [Hk] at hv
    by_cases hs2:p.nm.length=p.metas.length
    focus
     rw [decide_eq_true hs2,Hk] at hv
     have es2:(((p.nm.length:Nat):Int) !=((p.metas.length:Nat):Int))=false:=by simpa using congrArg Int.ofNat hs2
     replace hs2:=aa hs2
     by_cases hs3:p.na.length=p.acts.length
     focus
      rw [decide_eq_true hs3,Hk] at hv
      have es3:(((p.na.length:Nat):Int) !=((p.acts.length:Nat):Int))=false:=by simpa using congrArg Int.ofNat hs3
      replace hs3:=aa hs3
      by_cases hs4:p.nt.length=p.tabs.length
      focus
       rw [decide_eq_true hs4,Hk] at hv
       have es4:(((p.nt.length:Nat):Int) !=((p.tabs.length:Nat):Int))=false:=by simpa using congrArg Int.ofNat hs4
       replace hs4:=aa hs4
       by_cases hs5:1≤p.steps.length
       focus
        rw [decide_eq_true hs5,Hk] at hv
        have es5:¬((p.steps.length:Int)<1):=by omega
        have ds5:decide ((p.steps.length:Int)<1)=false:=decide_eq_false es5
        by_cases hs6:p.steps.length≤16
        focus
         rw [decide_eq_true hs6,Hk] at hv
         have es6:¬((16:Int)<(p.steps.length:Int)):=by omega
         have ds6:decide ((16:Int)<(p.steps.length:Int))=false:=decide_eq_false es6
         by_cases hs7:p.acts.length≤16
         focus
          rw [decide_eq_true hs7,Hk] at hv
          have es7:¬((16:Int)<(p.acts.length:Int)):=by omega
          have ds7:decide ((16:Int)<(p.acts.length:Int))=false:=decide_eq_false es7
          by_cases hs8:p.tabs.length≤8
          focus
           rw [decide_eq_true hs8,Hk] at hv
           have es8:¬((8:Int)<(p.tabs.length:Int)):=by omega
           have ds8:decide ((8:Int)<(p.tabs.length:Int))=false:=decide_eq_false es8
           cases D with
           |false=>
            rw [Hg] at hv
            go_wp2_with (first|(go_at_call 61;refine (hH.out _ (Hf _ _)).mono ?_;rintro e w3 ⟨rfl,hb3⟩;have ku:=ah hb3;have u0:=(ku.1 _ 0 hl1).trans y0;have u1:=(ku.1 _ 1 hl1).trans y1;have u2:=(ku.1 _ 2 hl1).trans y2;have u3:=(ku.1 _ 3 hl1).trans y3;have u4:=(ku.1 _ 4 hl1).trans y4;have u5:=(ku.1 _ 5 hl1).trans y5;have u6:=(ku.1 _ 6 hl1).trans y6;have u7:=(ku.1 _ 7 hl1).trans y7;have u8:=(ku.1 _ 8 hl1).trans y8;have u9:=(ku.1 _ 9 hl1).trans y9;have u10:=(ku.1 _ 10 hl1).trans y10;have u11:=(ku.1 _ 11 hl1).trans y11;clear ku;have lyu:=He hl1 hb3.size;have ju:=ah hb3;have ux0:=(ju.1 _ 0 hl2).trans x0;have ux1:=(ju.1 _ 1 hl2).trans x1;have ux2:=(ju.1 _ 2 hl2).trans x2;have ux3:=(ju.1 _ 3 hl2).trans x3;have ux4:=(ju.1 _ 4 hl2).trans x4;clear ju;have lxu:=He hl2 hb3.size)|(go_at_call 62;refine (hW.out _ hb3).mono ?_;rintro e w' ⟨rfl,rfl⟩)|(go_at_call 63;refine (hD.out _ hb3).mono ?_;rintro e w4 ⟨rfl,hb4'⟩;have hb4:=hb3.trans (hb4'.mono hb3.size);have kt:=ah hb4;have t0:=(kt.1 _ 0 hl1).trans y0;have t1:=(kt.1 _ 1 hl1).trans y1;have t2:=(kt.1 _ 2 hl1).trans y2;have t3:=(kt.1 _ 3 hl1).trans y3;have t4:=(kt.1 _ 4 hl1).trans y4;have t5:=(kt.1 _ 5 hl1).trans y5;have t6:=(kt.1 _ 6 hl1).trans y6;have t7:=(kt.1 _ 7 hl1).trans y7;have t8:=(kt.1 _ 8 hl1).trans y8;have t9:=(kt.1 _ 9 hl1).trans y9;have t10:=(kt.1 _ 10 hl1).trans y10;have t11:=(kt.1 _ 11 hl1).trans y11;clear kt;have lyt:=He hl1 hb4.size))
            go_ret
            exact ⟨ad hv.out.symm,hgo.out _ hb4⟩
           |true=>
            rw [Hk] at hv
            cases C with
            |false=>
             rw [Hg] at hv
             go_wp2_with (first|(go_at_call 61;refine (hH.out _ (Hf _ _)).mono ?_;rintro e w3 ⟨rfl,hb3⟩;have ku:=ah hb3;have u0:=(ku.1 _ 0 hl1).trans y0;have u1:=(ku.1 _ 1 hl1).trans y1;have u2:=(ku.1 _ 2 hl1).trans y2;have u3:=(ku.1 _ 3 hl1).trans y3;have u4:=(ku.1 _ 4 hl1).trans y4;have u5:=(ku.1 _ 5 hl1).trans y5;have u6:=(ku.1 _ 6 hl1).trans y6;have u7:=(ku.1 _ 7 hl1).trans y7;have u8:=(ku.1 _ 8 hl1).trans y8;have u9:=(ku.1 _ 9 hl1).trans y9;have u10:=(ku.1 _ 10 hl1).trans y10;have u11:=(ku.1 _ 11 hl1).trans y11;clear ku;have lyu:=He hl1 hb3.size;have ju:=ah hb3;have ux0:=(ju.1 _ 0 hl2).trans x0;have ux1:=(ju.1 _ 1 hl2).trans x1;have ux2:=(ju.1 _ 2 hl2).trans x2;have ux3:=(ju.1 _ 3 hl2).trans x3;have ux4:=(ju.1 _ 4 hl2).trans x4;clear ju;have lxu:=He hl2 hb3.size)|(go_at_call 62;refine (hW.out _ hb3).mono ?_;rintro e w' ⟨rfl,rfl⟩)|(go_at_call 63;refine (hD.out _ hb3).mono ?_;rintro e w4 ⟨rfl,hb4'⟩;have hb4:=hb3.trans (hb4'.mono hb3.size);have kt:=ah hb4;have t0:=(kt.1 _ 0 hl1).trans y0;have t1:=(kt.1 _ 1 hl1).trans y1;have t2:=(kt.1 _ 2 hl1).trans y2;have t3:=(kt.1 _ 3 hl1).trans y3;have t4:=(kt.1 _ 4 hl1).trans y4;have t5:=(kt.1 _ 5 hl1).trans y5;have t6:=(kt.1 _ 6 hl1).trans y6;have t7:=(kt.1 _ 7 hl1).trans y7;have t8:=(kt.1 _ 8 hl1).trans y8;have t9:=(kt.1 _ 9 hl1).trans y9;have t10:=(kt.1 _ 10 hl1).trans y10;have t11:=(kt.1 _ 11 hl1).trans y11;clear kt;have lyt:=He hl1 hb4.size)|(go_at_call 64;refine (hC.out _ hb4).mono ?_;rintro e w5 ⟨rfl,hb5'⟩;have hb5:=hb4.trans (hb5'.mono hb4.size)))
             go_ret
             exact ⟨ad hv.out.symm,hgo.out _ hb5⟩
            |true=>
             rw [Hk] at hv
             go_wp2_with (first|(go_at_call 61;refine (hH.out _ (Hf _ _)).mono ?_;rintro e w3 ⟨rfl,hb3⟩;have ku:=ah hb3;have u0:=(ku.1 _ 0 hl1).trans y0;have u1:=(ku.1 _ 1 hl1).trans y1;have u2:=(ku.1 _ 2 hl1).trans y2;have u3:=(ku.1 _ 3 hl1).trans y3;have u4:=(ku.1 _ 4 hl1).trans y4;have u5:=(ku.1 _ 5 hl1).trans y5;have u6:=(ku.1 _ 6 hl1).trans y6;have u7:=(ku.1 _ 7 hl1).trans y7;have u8:=(ku.1 _ 8 hl1).trans y8;have u9:=(ku.1 _ 9 hl1).trans y9;have u10:=(ku.1 _ 10 hl1).trans y10;have u11:=(ku.1 _ 11 hl1).trans y11;clear ku;have lyu:=He hl1 hb3.size;have ju:=ah hb3;have ux0:=(ju.1 _ 0 hl2).trans x0;have ux1:=(ju.1 _ 1 hl2).trans x1;have ux2:=(ju.1 _ 2 hl2).trans x2;have ux3:=(ju.1 _ 3 hl2).trans x3;have ux4:=(ju.1 _ 4 hl2).trans x4;clear ju;have lxu:=He hl2 hb3.size)|(go_at_call 62;refine (hW.out _ hb3).mono ?_;rintro e w' ⟨rfl,rfl⟩)|(go_at_call 63;refine (hD.out _ hb3).mono ?_;rintro e w4 ⟨rfl,hb4'⟩;have hb4:=hb3.trans (hb4'.mono hb3.size);have kt:=ah hb4;have t0:=(kt.1 _ 0 hl1).trans y0;have t1:=(kt.1 _ 1 hl1).trans y1;have t2:=(kt.1 _ 2 hl1).trans y2;have t3:=(kt.1 _ 3 hl1).trans y3;have t4:=(kt.1 _ 4 hl1).trans y4;have t5:=(kt.1 _ 5 hl1).trans y5;have t6:=(kt.1 _ 6 hl1).trans y6;have t7:=(kt.1 _ 7 hl1).trans y7;have t8:=(kt.1 _ 8 hl1).trans y8;have t9:=(kt.1 _ 9 hl1).trans y9;have t10:=(kt.1 _ 10 hl1).trans y10;have t11:=(kt.1 _ 11 hl1).trans y11;clear kt;have lyt:=He hl1 hb4.size)|(go_at_call 64;refine (hC.out _ hb4).mono ?_;rintro e w5 ⟨rfl,hb5'⟩;have hb5:=hb4.trans (hb5'.mono hb4.size)))
             replace hb5:=aa hb5
             clear hb3 hb4 hb4' hb5' hH hW hD hC u0 u1 u2 u3 u4 u5 u6 u7 u8 u9 u10 u11 t0 t1 t2 t3 t4 t5 t6 t7 t8 t9 t10 t11 ux0 x0 ux1 x1 ux2 x2 ux3 x3 ux4 x4 lyu lxu lyt
             generalize hF1:aK (eJ p) p.steps=F1 at hv
             generalize hF2:(fun i=> !oJ p.steps (i:Nat))=F2 at hv
             generalize hF3:(fun i=>aK (zW p i) p.acts i)=F3 at hv
             generalize hF4:aK (oI p) p.tabs=F4 at hv
             go_loopw [4] (fun i wr=>∃ k:Nat,k≤p.steps.length∧i=.int .i64 k∧Hid (am F1 k=true)∧Hid (Below wa.heap.size wa wr)) (fun i _=>p.steps.length-(intOf i).toNat)
             case atStart=>exact ⟨0,Hm _,rfl,aa rfl,hb5⟩
             case round=>
              obtain ⟨k,hk,rfl,hcn,hG⟩:=hrel
              have hzr:=hG.out.size
              have hgG:=aa (fun W (hW:Below wr.heap.size wr W)=>hG.out.trans (hW.mono hzr))
              by_cases hlt:k<p.steps.length
              ·have hkz:(k:Int)<(p.steps.length:Int):=by omega
               have hNx:=aa (fun (g:F1 k=true)=>show am F1 (k+1)=true from by rw [am,hcn.out,g];rfl)
               have hlo:=aa (fun (g:F1 k=false)=>show am F1 p.steps.length=false from aN hlt g)
               obtain ⟨b,o,B1,B2,B3,d1,d2,d3,hA3,hgl,n0,n1,n2,n3,hE1,hE2,hE3,-⟩:=(hPs.out wa (Hf _ _)).stp hlt
               subst hA3
               have hFk:F1 k=eJ p p.steps[k]:=by rw [←hF1];simp only [ag _ hlt]
               generalize p.steps[k]=x at n0 n1 n2 n3 hE1 hE2 hE3 hFk
               have hX:∀ d os,Hid (Calls prog 65 #[.agg #[.slice A1 p.heads.length c1,.slice A2 p.metas.length c2,.slice (some ⟨b,o,none⟩) p.steps.length c3,.slice A4 p.acts.length c4,.slice A5 p.tabs.length c5,.slice A6 p.control.length c6,.slice A7 p.emit.length c7,.slice A8 p.nh.length c8,.slice A9 p.nf.length c9,.slice A10 p.nm.length c10,.slice A11 p.na.length c11,.slice A12 p.nt.length c12],.agg #[.slice B1 x.takes.length d1,.slice B2 x.keys.length d2,.slice B3 x.brs.length d3,.int .i64 x.to]] (Ht (redrawn wr d) os) _):=fun d os=>aa (hSt.out x B1 B2 B3 d1 d2 d3 _ (aW hG.out hzr d os) ((hE1.below ai (aW hG.out hzr d os)).more ai (Hj hzr (below_regrown wr d os).size)) ((hE2.below aS (aW hG.out hzr d os)).more aS (Hj hzr (below_regrown wr d os).size)) ((hE3.below cz (aW hG.out hzr d os)).more cz (Hj hzr (below_regrown wr d os).size)))
               obtain ⟨tks,ks,bs,tt⟩:=x
               simp only at n0 n1 n2 n3 hFk hX
               generalize eJ p ⟨tks,ks,bs,tt⟩=z at hX hFk
               have kbr:=ah hG.out
               have f0:=(kbr.1 _ (o+k*4) hgl).trans n0
               have f1:=(kbr.1 _ (o+k*4+1) hgl).trans n1
               have f2:=(kbr.1 _ (o+k*4+2) hgl).trans n2
               have f3:=(kbr.1 _ (o+k*4+3) hgl).trans n3
               have q0:=(kbr.1 _ 0 hl1).trans y0
               have q1:=(kbr.1 _ 1 hl1).trans y1
               have q2:=(kbr.1 _ 2 hl1).trans y2
               have q3:=(kbr.1 _ 3 hl1).trans y3
               have q4:=(kbr.1 _ 4 hl1).trans y4
               have q5:=(kbr.1 _ 5 hl1).trans y5
               have q6:=(kbr.1 _ 6 hl1).trans y6
               have q7:=(kbr.1 _ 7 hl1).trans y7
               have q8:=(kbr.1 _ 8 hl1).trans y8
               have q9:=(kbr.1 _ 9 hl1).trans y9
               have q10:=(kbr.1 _ 10 hl1).trans y10
               have q11:=(kbr.1 _ 11 hl1).trans y11
               have hgw:=aE (show Below wr.heap.size wr wr from Hf _ _) (Hh _)
               have hB1:=He hl1 hzr
               have hB2:=He hgl hzr
               clear kbr n0 n1 n2 n3 y0 y1 y2 y3 y4 y5 y6 y7 y8 y9 y10 y11 hE1 hE2 hE3
               cases z with
               |false=>
                rw [hlo.out hFk,Hg] at hv
                replace hFk:=aa hFk
                go_wp2_with fail
                refine bV ?_
                repeat (any_goals (first|go_big_quiet_step ((go_at_call 65;with_reducible exact Hi (hX _ _).out))|quiet_step ((go_at_call 65;with_reducible exact Hi (hX _ _).out))))
                refine wpQuiet_nil ?_
                intro wq hwq
                replace hwq:=ac hwq
                go_wp2
                go_ret
                exact ⟨ad hv.out.symm,hgo.out _ (hgG.out _ hwq)⟩
               |true=>
                replace hNx:=aa (hNx.out hFk)
                replace hFk:=aa hFk
                go_wp2_with fail
                refine bV ?_
                repeat (any_goals (first|go_big_quiet_step ((go_at_call 65;with_reducible exact Hi (hX _ _).out))|quiet_step ((go_at_call 65;with_reducible exact Hi (hX _ _).out))))
                refine wpQuiet_nil ?_
                intro wq hwq
                replace hwq:=ac hwq
                go_wp2
                go_roundw
                case rel=>exact ⟨k+1,by omega,by go_num,hNx,aa (hgG.out _ hwq)⟩
                case measure=>simp [intOf];omega
              ·have hke:k=p.steps.length:=by omega
               subst hke
               rw [hcn.out,Hk] at hv
               have hgr:=aa (tJ (p:=p) (by rw [hF1];exact hcn.out))
               have hfew:=aa (yY (p:=p) (by rw [hF1];exact hcn.out))
               replace hcn:=aa hcn.out
               clear hgG hSt hPs hF1
               obtain ⟨wb,rfl⟩:∃ wb:World,wb=wr:=⟨_,rfl⟩
               have kbr:=ah hG.out
               have q0:=(kbr.1 _ 0 hl1).trans y0
               have q1:=(kbr.1 _ 1 hl1).trans y1
               have q2:=(kbr.1 _ 2 hl1).trans y2
               have q3:=(kbr.1 _ 3 hl1).trans y3
               have q4:=(kbr.1 _ 4 hl1).trans y4
               have q5:=(kbr.1 _ 5 hl1).trans y5
               have q6:=(kbr.1 _ 6 hl1).trans y6
               have q7:=(kbr.1 _ 7 hl1).trans y7
               have q8:=(kbr.1 _ 8 hl1).trans y8
               have q9:=(kbr.1 _ 9 hl1).trans y9
               have q10:=(kbr.1 _ 10 hl1).trans y10
               have q11:=(kbr.1 _ 11 hl1).trans y11
               have hB1:=He hl1 hzr
               clear kbr
               go_wp2
               clear hB1 q0 q1 q2 q3 q4 q5 q6 q7 q8 q9 q10 q11
               go_loopw [5] (fun i wr=>∃ k:Nat,k≤p.steps.length∧i=.int .i64 k∧Hid (am F2 k=true)∧Hid (Below wa.heap.size wa wr)) (fun i _=>p.steps.length-(intOf i).toNat)
               case atStart=>exact ⟨0,Hm _,rfl,aa rfl,hG⟩
               case round=>
                clear hG hzr
                obtain ⟨k,hk,rfl,hcn,hG⟩:=hrel
                have hzr:=hG.out.size
                have hgG:=aa (fun W (hW:Below wr.heap.size wr W)=>hG.out.trans (hW.mono hzr))
                by_cases hlt:k<p.steps.length
                ·have hkz:(k:Int)<(p.steps.length:Int):=by omega
                 have hNx:=aa (fun (g:F2 k=true)=>show am F2 (k+1)=true from by rw [am,hcn.out,g];rfl)
                 have hlo:=aa (fun (g:F2 k=false)=>show am F2 p.steps.length=false from aN hlt g)
                 have hFk:F2 k= !oJ p.steps k:=by rw [←hF2]
                 have hX:=hCy.out k wr hG.out hlt hgr.out hfew.out hs6
                 generalize oJ p.steps (k:Nat)=z at hX hFk
                 replace hX:=aa hX
                 have kbr:=ah hG.out
                 have q0:=(kbr.1 _ 0 hl1).trans y0
                 have q1:=(kbr.1 _ 1 hl1).trans y1
                 have q2:=(kbr.1 _ 2 hl1).trans y2
                 have q3:=(kbr.1 _ 3 hl1).trans y3
                 have q4:=(kbr.1 _ 4 hl1).trans y4
                 have q5:=(kbr.1 _ 5 hl1).trans y5
                 have q6:=(kbr.1 _ 6 hl1).trans y6
                 have q7:=(kbr.1 _ 7 hl1).trans y7
                 have q8:=(kbr.1 _ 8 hl1).trans y8
                 have q9:=(kbr.1 _ 9 hl1).trans y9
                 have q10:=(kbr.1 _ 10 hl1).trans y10
                 have q11:=(kbr.1 _ 11 hl1).trans y11
                 have hB1:=He hl1 hzr
                 clear kbr y0 y1 y2 y3 y4 y5 y6 y7 y8 y9 y10 y11
                 cases z with
                 |false=>
                  replace hNx:=aa (hNx.out hFk)
                  replace hFk:=aa hFk
                  go_wp2_with (go_at_call 66;refine hX.out.mono ?_;rintro e w6 ⟨rfl,hb6⟩)
                  go_roundw
                  case rel=>exact ⟨k+1,by omega,by go_num,hNx,aa (hgG.out _ hb6)⟩
                  case measure=>simp [intOf];omega
                 |true=>
                  rw [hlo.out hFk,Hg] at hv
                  replace hFk:=aa hFk
                  go_wp2_with (go_at_call 66;refine hX.out.mono ?_;rintro e w6 ⟨rfl,hb6⟩)
                  go_ret
                  exact ⟨ad hv.out.symm,hgo.out _ (hgG.out _ hb6)⟩
                ·have hke:k=p.steps.length:=by omega
                 subst hke
                 rw [hcn.out,Hk] at hv
                 replace hcn:=aa hcn.out
                 clear hgG hCy hF2 hgr hfew
                 obtain ⟨wc,rfl⟩:∃ wc:World,wc=wr:=⟨_,rfl⟩
                 have kbr:=ah hG.out
                 have q0:=(kbr.1 _ 0 hl1).trans y0
                 have q1:=(kbr.1 _ 1 hl1).trans y1
                 have q2:=(kbr.1 _ 2 hl1).trans y2
                 have q3:=(kbr.1 _ 3 hl1).trans y3
                 have q4:=(kbr.1 _ 4 hl1).trans y4
                 have q5:=(kbr.1 _ 5 hl1).trans y5
                 have q6:=(kbr.1 _ 6 hl1).trans y6
                 have q7:=(kbr.1 _ 7 hl1).trans y7
                 have q8:=(kbr.1 _ 8 hl1).trans y8
                 have q9:=(kbr.1 _ 9 hl1).trans y9
                 have q10:=(kbr.1 _ 10 hl1).trans y10
                 have q11:=(kbr.1 _ 11 hl1).trans y11
                 have hB1:=He hl1 hzr
                 clear kbr
                 go_wp2
                 clear hB1 q0 q1 q2 q3 q4 q5 q6 q7 q8 q9 q10 q11
                 go_loopw [6,7] (fun i _ wr=>∃ k:Nat,k≤p.acts.length∧i=.int .i64 k∧Hid (am F3 k=true)∧Hid (Below wa.heap.size wa wr)) (fun i _ _=>p.acts.length-(intOf i).toNat)
                 case atStart=>exact ⟨0,Hm _,rfl,aa rfl,hG⟩
                 case round=>
                  clear hG hzr
                  obtain ⟨k,hk,rfl,hcn,hG⟩:=hrel
                  have hzr:=hG.out.size
                  have hgG:=aa (fun W (hW:Below wr.heap.size wr W)=>hG.out.trans (hW.mono hzr))
                  by_cases hlt:k<p.acts.length
                  ·have hkz:(k:Int)<(p.acts.length:Int):=by omega
                   have hNx:=aa (fun (g:F3 k=true)=>show am F3 (k+1)=true from by rw [am,hcn.out,g];rfl)
                   have hlo:=aa (fun (g:F3 k=false)=>show am F3 p.acts.length=false from aN hlt g)
                   obtain ⟨b,o,A',B',ca,cb,hAe,hb,n0,n1,hE1,hE2⟩:=(hPa.out wr hG.out).act hlt
                   subst hAe
                   have hFk:F3 k=(eh p.acts[k].params 8&&fs p k p.acts[k].body):=by rw [←hF3];simp only [ag _ hlt];rfl
                   generalize p.acts[k]=x at n0 n1 hE1 hE2 hFk
                   obtain ⟨ps,body⟩:=x
                   simp only at n0 n1 hE1 hE2 hFk
                   rw [eh,Bool.and_assoc] at hFk
                   have lps:=hE1.len
                   have lbd:=hE2.len
                   obtain ⟨wn,hwn,hsn,hbn,hcl,-⟩:=ak wr #[.slice A' ps.length ca,.slice B' body.length cb] 106
                   have kbw:=ah hG.out
                   have v3:=(kbw.1 _ 3 hl1).trans y3
                   clear kbw
                   have hB0:w.heap.size<wr.heap.size:=He hl1 hzr
                   have m0:wn.cell? ⟨wr.heap.size,0,none⟩=some (.slice A' ps.length ca):=hcl 0
                   have m1:wn.cell? ⟨wr.heap.size,1,none⟩=some (.slice B' body.length cb):=hcl 1
                   have hGn:Below wa.heap.size wa wn:=hG.out.trans (hbn.mono hzr)
                   have kbr:=ah hGn
                   have q0:=(kbr.1 _ 0 hl1).trans y0
                   have q1:=(kbr.1 _ 1 hl1).trans y1
                   have q2:=(kbr.1 _ 2 hl1).trans y2
                   have q3:=(kbr.1 _ 3 hl1).trans y3
                   have q4:=(kbr.1 _ 4 hl1).trans y4
                   have q5:=(kbr.1 _ 5 hl1).trans y5
                   have q6:=(kbr.1 _ 6 hl1).trans y6
                   have q7:=(kbr.1 _ 7 hl1).trans y7
                   have q8:=(kbr.1 _ 8 hl1).trans y8
                   have q9:=(kbr.1 _ 9 hl1).trans y9
                   have q10:=(kbr.1 _ 10 hl1).trans y10
                   have q11:=(kbr.1 _ 11 hl1).trans y11
                   have hB1:w.heap.size<wn.heap.size:=He hl1 hGn.size
                   have hB2:wr.heap.size<wn.heap.size:=by omega
                   have hW8:=ja A' ca ps wn ((hE1.below ai hbn).more ai hbn.size)
                   have hE2n:=(hE2.below bG hbn).more bG hbn.size
                   have hI8:=hIa.out k body B' cb wn hGn hE2n
                   generalize ps.all aj=W1 at hW8 hFk
                   generalize fs p k body=I1 at hI8 hFk
                   replace hW8:=aa hW8
                   replace hI8:=aa hI8
                   replace hGn:=aa hGn
                   replace hsn:=aa hsn
                   clear hcl hbn hE1 hE2 hE2n kbr y0 y1 y2 y3 y4 y5 y6 y7 y8 y9 y10 y11
                   by_cases h8:ps.length≤8
                   ·rw [decide_eq_true h8,Hk] at hFk
                    have h8z:¬((8:Int)<(ps.length:Int)):=by omega
                    cases W1 with
                    |false=>
                     rw [Hg] at hFk
                     rw [hlo.out hFk,Hg] at hv
                     replace hFk:=aa hFk
                     go_wp2_with (go_at_call 62;refine hW8.out.mono ?_;rintro e w' ⟨rfl,rfl⟩)
                     go_ret
                     exact ⟨ad hv.out.symm,hgo.out _ hGn.out⟩
                    |true=>
                     rw [Hk] at hFk
                     cases I1 with
                     |false=>
                      rw [hlo.out hFk,Hg] at hv
                      replace hFk:=aa hFk
                      go_wp2_with (first|(go_at_call 62;refine hW8.out.mono ?_;rintro e w' ⟨rfl,rfl⟩)|(go_at_call 64;refine hI8.out.mono ?_;rintro e w7 ⟨rfl,hb7⟩))
                      go_ret
                      exact ⟨ad hv.out.symm,hgo.out _ (hGn.out.trans (hb7.mono hGn.out.size))⟩
                     |true=>
                      replace hNx:=aa (hNx.out hFk)
                      replace hFk:=aa hFk
                      go_wp2_with (first|(go_at_call 62;refine hW8.out.mono ?_;rintro e w' ⟨rfl,rfl⟩)|(go_at_call 64;refine hI8.out.mono ?_;rintro e w7 ⟨rfl,hb7⟩))
                      go_roundw
                      case rel=>exact ⟨k+1,by omega,by go_num,hNx,aa (hGn.out.trans (hb7.mono hGn.out.size))⟩
                      case measure=>simp [intOf];omega
                   ·rw [decide_eq_false h8,Hg] at hFk
                    rw [hlo.out hFk,Hg] at hv
                    have h8z:((8:Int)<(ps.length:Int)):=by omega
                    replace hFk:=aa hFk
                    go_wp2
                    go_ret
                    exact ⟨ad hv.out.symm,hgo.out _ hGn.out⟩
                  ·have hke:k=p.acts.length:=by omega
                   subst hke
                   rw [hcn.out,Hk] at hv
                   replace hcn:=aa hcn.out
                   clear hgG hIa hPa hF3
                   obtain ⟨wd,rfl⟩:∃ wd:World,wd=wr:=⟨_,rfl⟩
                   have kbr:=ah hG.out
                   have q0:=(kbr.1 _ 0 hl1).trans y0
                   have q1:=(kbr.1 _ 1 hl1).trans y1
                   have q2:=(kbr.1 _ 2 hl1).trans y2
                   have q3:=(kbr.1 _ 3 hl1).trans y3
                   have q4:=(kbr.1 _ 4 hl1).trans y4
                   have q5:=(kbr.1 _ 5 hl1).trans y5
                   have q6:=(kbr.1 _ 6 hl1).trans y6
                   have q7:=(kbr.1 _ 7 hl1).trans y7
                   have q8:=(kbr.1 _ 8 hl1).trans y8
                   have q9:=(kbr.1 _ 9 hl1).trans y9
                   have q10:=(kbr.1 _ 10 hl1).trans y10
                   have q11:=(kbr.1 _ 11 hl1).trans y11
                   have hB1:=He hl1 hzr
                   clear kbr
                   go_wp2
                   clear hB1 q0 q1 q2 q3 q4 q5 q6 q7 q8 q9 q10 q11
                   go_loopw [8] (fun i wr=>∃ k:Nat,k≤p.tabs.length∧i=.int .i64 k∧Hid (am F4 k=true)∧Hid (Below wa.heap.size wa wr)) (fun i _=>p.tabs.length-(intOf i).toNat)
                   case atStart=>exact ⟨0,Hm _,rfl,aa rfl,hG⟩
                   case round=>
                    clear hG hzr
                    obtain ⟨k,hk,rfl,hcn,hG⟩:=hrel
                    have hzr:=hG.out.size
                    have hgG:=aa (fun W (hW:Below wr.heap.size wr W)=>hG.out.trans (hW.mono hzr))
                    by_cases hlt:k<p.tabs.length
                    ·have hkz:(k:Int)<(p.tabs.length:Int):=by omega
                     have hNx:=aa (fun (g:F4 k=true)=>show am F4 (k+1)=true from by rw [am,hcn.out,g];rfl)
                     have hlo:=aa (fun (g:F4 k=false)=>show am F4 p.tabs.length=false from aN hlt g)
                     obtain ⟨b,o,B1,B2,B3,B4,d1,d2,d3,d4,hA5,hgl,n0,n1,n2,n3,n4,hE1,hE2,hE3,hE4,hE5⟩:=(hPt.out wa (Hf _ _)).ltb hlt
                     subst hA5
                     have hFk:F4 k=oI p p.tabs[k]:=by rw [←hF4];simp only [ag _ hlt]
                     generalize p.tabs[k]=x at n0 n1 n2 n3 n4 hE1 hE2 hE3 hE4 hE5 hFk
                     have hX:∀ d os,Hid (Calls prog 67 #[.agg #[.slice A1 p.heads.length c1,.slice A2 p.metas.length c2,.slice A3 p.steps.length c3,.slice A4 p.acts.length c4,.slice (some ⟨b,o,none⟩) p.tabs.length c5,.slice A6 p.control.length c6,.slice A7 p.emit.length c7,.slice A8 p.nh.length c8,.slice A9 p.nf.length c9,.slice A10 p.nm.length c10,.slice A11 p.na.length c11,.slice A12 p.nt.length c12],.agg #[.slice B1 x.keys.length d1,.slice B2 x.kinds.length d2,.slice B3 x.acts.length d3,.int .i64 x.run.act,.slice B4 x.run.args.length d4]] (Ht (redrawn wr d) os) _):=fun d os=>aa (hTa.out x B1 B2 B3 B4 d1 d2 d3 d4 _ (aW hG.out hzr d os) ((hE1.below aS (aW hG.out hzr d os)).more aS (Hj hzr (below_regrown wr d os).size)) ((hE2.below bX (aW hG.out hzr d os)).more bX (Hj hzr (below_regrown wr d os).size)) ((hE3.below ai (aW hG.out hzr d os)).more ai (Hj hzr (below_regrown wr d os).size)) ((hE4.below aw (aW hG.out hzr d os)).more aw (Hj hzr (below_regrown wr d os).size)) hE5)
                     obtain ⟨tks,kds,acs,⟨ra,rg⟩⟩:=x
                     simp only at n0 n1 n2 n3 n4 hFk hX
                     generalize oI p ⟨tks,kds,acs,⟨ra,rg⟩⟩=z at hX hFk
                     have kbr:=ah hG.out
                     have f0:=(kbr.1 _ (o+k*5) hgl).trans n0
                     have f1:=(kbr.1 _ (o+k*5+1) hgl).trans n1
                     have f2:=(kbr.1 _ (o+k*5+2) hgl).trans n2
                     have f3:=(kbr.1 _ (o+k*5+3) hgl).trans n3
                     have f4:=(kbr.1 _ (o+k*5+4) hgl).trans n4
                     have q0:=(kbr.1 _ 0 hl1).trans y0
                     have q1:=(kbr.1 _ 1 hl1).trans y1
                     have q2:=(kbr.1 _ 2 hl1).trans y2
                     have q3:=(kbr.1 _ 3 hl1).trans y3
                     have q4:=(kbr.1 _ 4 hl1).trans y4
                     have q5:=(kbr.1 _ 5 hl1).trans y5
                     have q6:=(kbr.1 _ 6 hl1).trans y6
                     have q7:=(kbr.1 _ 7 hl1).trans y7
                     have q8:=(kbr.1 _ 8 hl1).trans y8
                     have q9:=(kbr.1 _ 9 hl1).trans y9
                     have q10:=(kbr.1 _ 10 hl1).trans y10
                     have q11:=(kbr.1 _ 11 hl1).trans y11
                     have hgw:=aE (show Below wr.heap.size wr wr from Hf _ _) (Hh _)
                     have hB1:=He hl1 hzr
                     have hB2:=He hgl hzr
                     clear kbr n0 n1 n2 n3 n4 y0 y1 y2 y3 y4 y5 y6 y7 y8 y9 y10 y11 hE1 hE2 hE3 hE4
                     cases z with
                     |false=>
                      rw [hlo.out hFk] at hv
                      replace hFk:=aa hFk
                      go_wp2_with fail
                      refine bV ?_
                      repeat (any_goals (first|go_big_quiet_step ((go_at_call 67;with_reducible exact Hi (hX _ _).out))|quiet_step ((go_at_call 67;with_reducible exact Hi (hX _ _).out))))
                      refine wpQuiet_nil ?_
                      intro wq hwq
                      replace hwq:=ac hwq
                      go_wp2
                      go_ret
                      exact ⟨ad hv.out.symm,hgo.out _ (hgG.out _ hwq)⟩
                     |true=>
                      replace hNx:=aa (hNx.out hFk)
                      replace hFk:=aa hFk
                      go_wp2_with fail
                      refine bV ?_
                      repeat (any_goals (first|go_big_quiet_step ((go_at_call 67;with_reducible exact Hi (hX _ _).out))|quiet_step ((go_at_call 67;with_reducible exact Hi (hX _ _).out))))
                      refine wpQuiet_nil ?_
                      intro wq hwq
                      replace hwq:=ac hwq
                      go_wp2
                      go_roundw
                      case rel=>exact ⟨k+1,by omega,by go_num,hNx,aa (hgG.out _ hwq)⟩
                      case measure=>simp [intOf];omega
                    ·have hke:k=p.tabs.length:=by omega
                     subst hke
                     rw [hcn.out] at hv
                     have kbr:=ah hG.out
                     have q0:=(kbr.1 _ 0 hl1).trans y0
                     have q1:=(kbr.1 _ 1 hl1).trans y1
                     have q2:=(kbr.1 _ 2 hl1).trans y2
                     have q3:=(kbr.1 _ 3 hl1).trans y3
                     have q4:=(kbr.1 _ 4 hl1).trans y4
                     have q5:=(kbr.1 _ 5 hl1).trans y5
                     have q6:=(kbr.1 _ 6 hl1).trans y6
                     have q7:=(kbr.1 _ 7 hl1).trans y7
                     have q8:=(kbr.1 _ 8 hl1).trans y8
                     have q9:=(kbr.1 _ 9 hl1).trans y9
                     have q10:=(kbr.1 _ 10 hl1).trans y10
                     have q11:=(kbr.1 _ 11 hl1).trans y11
                     have hB1:=He hl1 hzr
                     clear kbr
                     go_wp2
                     go_ret
                     exact ⟨ad hv.out.symm,hgo.out _ hG.out⟩
          rotate_right
          rw [decide_eq_false hs8] at hv
          have es8:((8:Int)<(p.tabs.length:Int)):=by omega
          have ds8:decide ((8:Int)<(p.tabs.length:Int))=true:=decide_eq_true es8
         rotate_right
         rw [decide_eq_false hs7] at hv
         have es7:((16:Int)<(p.acts.length:Int)):=by omega
         have ds7:decide ((16:Int)<(p.acts.length:Int))=true:=decide_eq_true es7
        rotate_right
        rw [decide_eq_false hs6] at hv
        have es6:((16:Int)<(p.steps.length:Int)):=by omega
        have ds6:decide ((16:Int)<(p.steps.length:Int))=true:=decide_eq_true es6
       rotate_right
       rw [decide_eq_false hs5] at hv
       have es5:((p.steps.length:Int)<1):=by omega
       have ds5:decide ((p.steps.length:Int)<1)=true:=decide_eq_true es5
      rotate_right
      rw [decide_eq_false hs4] at hv
      have es4:(((p.nt.length:Nat):Int) !=((p.tabs.length:Nat):Int))=true:=by rw [bne_iff_ne];omega
      replace hs4:=aa hs4
     rotate_right
     rw [decide_eq_false hs3] at hv
     have es3:(((p.na.length:Nat):Int) !=((p.acts.length:Nat):Int))=true:=by rw [bne_iff_ne];omega
     replace hs3:=aa hs3
    rotate_right
    rw [decide_eq_false hs2] at hv
    have es2:(((p.nm.length:Nat):Int) !=((p.metas.length:Nat):Int))=true:=by rw [bne_iff_ne];omega
    replace hs2:=aa hs2
  rotate_right
  focus
   rw [decide_eq_false hs1] at hv
   have es1:((16:Int)<(p.metas.length:Int)):=by omega
   have ds1:decide ((16:Int)<(p.metas.length:Int))=true:=decide_eq_true es1
   rw [Hg] at hv
   go_wp2_with (go_at_call 61;refine (hH.out _ (Hf _ _)).mono ?_;rintro e w3 ⟨rfl,hb3⟩;have ku:=ah hb3;have u0:=(ku.1 _ 0 hl1).trans y0;have u1:=(ku.1 _ 1 hl1).trans y1;have u2:=(ku.1 _ 2 hl1).trans y2;have u3:=(ku.1 _ 3 hl1).trans y3;have u4:=(ku.1 _ 4 hl1).trans y4;have u5:=(ku.1 _ 5 hl1).trans y5;have u6:=(ku.1 _ 6 hl1).trans y6;have u7:=(ku.1 _ 7 hl1).trans y7;have u8:=(ku.1 _ 8 hl1).trans y8;have u9:=(ku.1 _ 9 hl1).trans y9;have u10:=(ku.1 _ 10 hl1).trans y10;have u11:=(ku.1 _ 11 hl1).trans y11;clear ku;have lyu:=He hl1 hb3.size;have ju:=ah hb3;have ux0:=(ju.1 _ 0 hl2).trans x0;have ux1:=(ju.1 _ 1 hl2).trans x1;have ux2:=(ju.1 _ 2 hl2).trans x2;have ux3:=(ju.1 _ 3 hl2).trans x3;have ux4:=(ju.1 _ 4 hl2).trans x4;clear ju;have lxu:=He hl2 hb3.size)
   go_ret
   exact ⟨ad hv.out.symm,hgo.out _ hb3⟩
 all_goals
  rw [Hg] at hv
  go_wp2_with (first|(go_at_call 61;refine (hH.out _ (Hf _ _)).mono ?_;rintro e w3 ⟨rfl,hb3⟩;have ku:=ah hb3;have u0:=(ku.1 _ 0 hl1).trans y0;have u1:=(ku.1 _ 1 hl1).trans y1;have u2:=(ku.1 _ 2 hl1).trans y2;have u3:=(ku.1 _ 3 hl1).trans y3;have u4:=(ku.1 _ 4 hl1).trans y4;have u5:=(ku.1 _ 5 hl1).trans y5;have u6:=(ku.1 _ 6 hl1).trans y6;have u7:=(ku.1 _ 7 hl1).trans y7;have u8:=(ku.1 _ 8 hl1).trans y8;have u9:=(ku.1 _ 9 hl1).trans y9;have u10:=(ku.1 _ 10 hl1).trans y10;have u11:=(ku.1 _ 11 hl1).trans y11;clear ku;have lyu:=He hl1 hb3.size;have ju:=ah hb3;have ux0:=(ju.1 _ 0 hl2).trans x0;have ux1:=(ju.1 _ 1 hl2).trans x1;have ux2:=(ju.1 _ 2 hl2).trans x2;have ux3:=(ju.1 _ 3 hl2).trans x3;have ux4:=(ju.1 _ 4 hl2).trans x4;clear ju;have lxu:=He hl2 hb3.size)|(go_at_call 62;refine (hW.out _ hb3).mono ?_;rintro e w' ⟨rfl,rfl⟩))
  go_ret
  exact ⟨ad hv.out.symm,hgo.out _ hb3⟩
end Go.Proofs.YtiebolhmdhdagaaGreatDoor

import Derived.Test.YtijcdfdbkffiaaaGreatDoorCbp31
set_option linter.all false
set_option maxHeartbeats 8000000
set_option maxRecDepth 100000
open Go.Proofs.Tryz
namespace Go.Proofs.YtijcdfdbkffiaaaGreatDoor
open _root_.Nat renaming lt_of_lt_of_le→Hr, le_refl→Ht, le_trans→Hw, zero_le→Hz
open _root_.Go.RowKit.Below renaming refl→Hs
open _root_.Bool renaming false_and→Hu, true_and→Hx, and_eq_true→Hy
open _root_.Go.Calls renaming regrown_of→Hv
open _root_.Go.Sort renaming grow→HG
open _root_.Int renaming eq_ofNat_of_zero_le→HH, toNat_natCast→HQ
open _root_.List renaming all_eq_true→HT, range→HX, mem_append→HZ, getElem_of_mem→H0, mem_range→H5, eq_nil_of_length_eq_zero→Ie
open _root_.Option renaming getD_some→If
open Go.RowKit
theorem xZ {p:Lp} {x:j8} (h:el p x=true):x.brs.length≤1000:=by
 unfold el at h
 simp only [Hy] at h
 have h2:=h.2
 split at h2
 ·have:=of_decide_eq_true h2;omega
 ·simp only [Hy,decide_eq_true_eq] at h2
  omega
theorem BE {p:Lp} {x:j8} (h:el p x=true):∀ t∈iM x,t<p.steps.length:=by
 intro t ht
 unfold el at h
 simp only [Hy,decide_eq_true_eq] at h
 obtain ⟨⟨⟨⟨h1,h2⟩,h3⟩,h4⟩,h5⟩:=h
 simp only [gd,Hy,decide_eq_true_eq] at h3
 unfold iM at ht
 rcases HZ.1 ht with ht|ht
 ·split at ht
  ·simp at ht;omega
  ·simp at ht
 ·obtain ⟨b,hb,rfl⟩:=List.mem_map.1 ht
  split at h5
  ·have:x.brs= []:=Ie (of_decide_eq_true h5)
   rw [this] at hb;simp at hb
  ·rename_i hk0
   simp only [Hy,decide_eq_true_eq] at h5
   obtain ⟨i,hi,rfl⟩:=H0 hb
   have hk:=(aY _ _).1 h5.2 0 (by omega)
   unfold kX at hk
   rw [am _ (show 0<x.keys.length by omega)] at hk
   cases hw:iJ p (-1) x.keys[0] with
   |none=>rw [hw] at hk;cases hk
   |some w=>
    rw [hw] at hk
    simp only at hk
    have hb2:=(aY _ _).1 hk i hi
    rw [am _ hi] at hb2
    simp only [B7,gd,Hy,decide_eq_true_eq] at hb2
    exact hb2.1.1.2
theorem se {p:Lp} (h:ar (aZ (el p) p.steps) p.steps.length=true):∀ i,∀ t∈bf p.steps i,t<p.steps.length:=by
 intro i t ht
 unfold bf at ht
 cases hn:eC p.steps i with
 |none=>rw [hn] at ht;simp at ht
 |some s=>
  rw [hn] at ht
  simp only [Option.map_some,If] at ht
  obtain ⟨j,hj,rfl⟩:=H0 (oW hn)
  have:=(aY _ _).1 h j hj
  rw [am _ hj] at this
  exact BE this t ht
theorem yb {p:Lp} (h:ar (aZ (el p) p.steps) p.steps.length=true):∀ x∈p.steps,x.brs.length≤1000:=by
 intro x hx
 obtain ⟨j,hj,rfl⟩:=H0 hx
 have:=(aY _ _).1 h j hj
 rw [am _ hj] at this
 exact xZ this
theorem BF (A1 A2 A3 A4 A5 A6 A7 A8 A9 A10 A11 A12:Option Addr) (p:Lp) (c1 c2 c3 c4 c5 c6 c7 c8 c9 c10 c11 c12:Nat) (w:World) (h:cz w w.heap.size A1 A2 A3 A4 A5 A6 A7 A8 A9 A10 A11 A12 p) (hE:p.emit.length≤c7):
  Calls prog 24 #[.agg (aO A1 A2 A3 A4 A5 A6 A7 A8 A9 A10 A11 A12 p c1 c2 c3 c4 c5 c6 c7 c8 c9 c10 c11 c12)] w fun e w'=>e=.returned (.bool (g8 p))∧Below w.heap.size w w':=by
 unfold aO
 have l0:=h.heads.len
 have l1:=h.metas.len
 have l2:=h.steps.len
 have l3:=h.acts.len
 have l4:=h.tabs.len
 have lm:=h.nm.len
 have la:=h.na.len
 have lt:=h.nt.len
 obtain ⟨wz,hwz,hsz,hbz,hcz,-⟩:=af w (aO A1 A2 A3 A4 A5 A6 A7 A8 A9 A10 A11 A12 p c1 c2 c3 c4 c5 c6 c7 c8 c9 c10 c11 c12) 33
 obtain ⟨wa,hwa,hsa,hba,hca,-⟩:=af wz #[.slice A8 p.nh.length c8,.slice A9 p.nf.length c9,.slice A10 p.nm.length c10,.slice A11 p.na.length c11,.slice A12 p.nt.length c12] 31
 have k0:w.heap.size<wz.heap.size:=by omega
 obtain ⟨z0,z1,z2,z3,z4,z5,z6,z7,z8,z9,z10,z11⟩:=aF hcz
 obtain ⟨y0,y1,y2,y3,y4,y5,y6,y7,y8,y9,y10,y11⟩:=aF fun i=>(hba.cell (p:=⟨w.heap.size,i,none⟩) k0).trans (hcz i)
 obtain ⟨x0,x1,x2,x3,x4⟩:=p8 hca
 have hl1:w.heap.size<wa.heap.size:=by omega
 have hl2:wz.heap.size<wa.heap.size:=by omega
 have hw:Below w.heap.size w wa:=hbz.trans (hba.mono (by omega))
 have hP:∀ W,Below wa.heap.size wa W→cz W W.heap.size A1 A2 A3 A4 A5 A6 A7 A8 A9 A10 A11 A12 p:=fun W hW=>((h.below hw).below (hW.mono hw.size)).more (Hw hw.size hW.size)
 have hgo:=aa (fun W (hW:Below wa.heap.size wa W)=>hw.trans (hW.mono hw.size))
 have hv:=aa (show g8 p=(ik p&&(decide (p.metas.length≤16)&&(p.metas.all aj&&(decide (p.nm.length=p.metas.length)&&(decide (p.na.length=p.acts.length)&&(decide (p.nt.length=p.tabs.length)&&
  (decide (1≤p.steps.length)&&(decide (p.steps.length≤16)&&(decide (p.acts.length≤16)&&(decide (p.tabs.length≤8)&&(mY p.emit p.heads.length&&(eR p (-1) p.control&&
  (ar (aZ (el p) p.steps) p.steps.length&&(ar (fun i=> !m6 p.steps (i:Nat)) p.steps.length&&(ar (fun i=>aZ (zi p i) p.acts i) p.acts.length&&ar (aZ (mZ p) p.tabs) p.tabs.length))))))))))))))) from by
  unfold g8 dU;simp only [Bool.and_assoc])
 have hH:=aa (fun W hW=>tP A1 A2 A3 A4 A5 A6 A7 A8 A9 A10 A11 A12 p c1 c2 c3 c4 c5 c6 c7 c8 c9 c10 c11 c12 W (hP W hW))
 have hW:=aa (fun W hW=>iA A2 c2 p.metas W (hP W hW).metas)
 have hD:=aa (fun W hW=>oI A7 c7 p.emit p.heads.length W (hP W hW).emit hE)
 have hC:=aa (fun W hW=>ie A1 A2 A3 A4 A5 A6 A7 A8 A9 A10 A11 A12 p c1 c2 c3 c4 c5 c6 c7 c8 c9 c10 c11 c12 (-1) p.control A6 c6 W (hP W hW) (hP W hW).control)
 have hSt:=aa (fun x P1 P2 P3 d1 d2 d3 W hW h1 h2 h3=>pC A1 A2 A3 A4 A5 A6 A7 A8 A9 A10 A11 A12 p c1 c2 c3 c4 c5 c6 c7 c8 c9 c10 c11 c12 x P1 P2 P3 d1 d2 d3 W (hP W hW) h1 h2 h3)
 have hCy:=aa (fun s W hW hs hg hb h16=>sd A1 A2 A3 A4 A5 A6 A7 A8 A9 A10 A11 A12 p c1 c2 c3 c4 c5 c6 c7 c8 c9 c10 c11 c12 s W (hP W hW) hs hg hb h16)
 have hIa:=aa (fun act l A c W hW hL=>ie A1 A2 A3 A4 A5 A6 A7 A8 A9 A10 A11 A12 p c1 c2 c3 c4 c5 c6 c7 c8 c9 c10 c11 c12 act l A c W (hP W hW) hL)
 have hTa:=aa (fun x P1 P2 P3 P4 d1 d2 d3 d4 W hW h1 h2 h3 h4 h5=>sb A1 A2 A3 A4 A5 A6 A7 A8 A9 A10 A11 A12 p c1 c2 c3 c4 c5 c6 c7 c8 c9 c10 c11 c12 x P1 P2 P3 P4 d1 d2 d3 d4 W (hP W hW) h1 h2 h3 h4 h5)
 have hPs:=aa (fun W hW=>(hP W hW).steps)
 have hPa:=aa (fun W hW=>(hP W hW).acts)
 have hPt:=aa (fun W hW=>(hP W hW).tabs)
 generalize g8 p=RES at hv ⊢
 generalize ik p=H at hH hv
 generalize p.metas.all aj=Q at hW hv
 generalize mY p.emit p.heads.length=D at hD hv
 generalize eR p (-1) p.control=C at hC hv
 replace hw:=aa hw
 replace hsa:=aa hsa
 replace hsz:=aa hsz
 clear hca hcz hbz h hP hba
 go_enter func24,ntmps24
 go_upto_region 2 with fail
 clear z0 z1 z2 z3 z4 z5 z6 z7 z8 z9 z10 z11
 cases H
 focus
  rw [Hu] at hv
  go_wp2_with (go_at_call 47;refine (hH.out _ (Hs _ _)).mono ?_;rintro e w3 ⟨rfl,hb3⟩;have ku:=ae hb3;have u0:=(ku.1 _ 0 hl1).trans y0;have u1:=(ku.1 _ 1 hl1).trans y1;have u2:=(ku.1 _ 2 hl1).trans y2;have u3:=(ku.1 _ 3 hl1).trans y3;have u4:=(ku.1 _ 4 hl1).trans y4;have u5:=(ku.1 _ 5 hl1).trans y5;have u6:=(ku.1 _ 6 hl1).trans y6;have u7:=(ku.1 _ 7 hl1).trans y7;have u8:=(ku.1 _ 8 hl1).trans y8;have u9:=(ku.1 _ 9 hl1).trans y9;have u10:=(ku.1 _ 10 hl1).trans y10;have u11:=(ku.1 _ 11 hl1).trans y11;clear ku;have lyu:=Hr hl1 hb3.size;have ju:=ae hb3;have ux0:=(ju.1 _ 0 hl2).trans x0;have ux1:=(ju.1 _ 1 hl2).trans x1;have ux2:=(ju.1 _ 2 hl2).trans x2;have ux3:=(ju.1 _ 3 hl2).trans x3;have ux4:=(ju.1 _ 4 hl2).trans x4;clear ju;have lxu:=Hr hl2 hb3.size)
  go_ret
  exact ⟨ad hv.out.symm,hgo.out _ hb3⟩
 rotate_right
 focus
  rw [Hx] at hv
  by_cases hs1:p.metas.length≤16
  focus
   rw [decide_eq_true hs1,Hx] at hv
   have es1:¬((16:Int)<(p.metas.length:Int)):=by omega
   have ds1:decide ((16:Int)<(p.metas.length:Int))=false:=decide_eq_false es1
   cases Q
   rotate_right
   focus
    rw [Hx] at hv
    by_cases hs2:p.nm.length=p.metas.length
    focus
     rw [decide_eq_true hs2,Hx] at hv
     have es2:(((p.nm.length:Nat):Int) !=((p.metas.length:Nat):Int))=false:=by simpa using congrArg Int.ofNat hs2
     replace hs2:=aa hs2
     by_cases hs3:p.na.length=p.acts.length
     focus
      rw [decide_eq_true hs3,Hx] at hv
      have es3:(((p.na.length:Nat):Int) !=((p.acts.length:Nat):Int))=false:=by simpa using congrArg Int.ofNat hs3
      replace hs3:=aa hs3
      by_cases hs4:p.nt.length=p.tabs.length
      focus
       rw [decide_eq_true hs4,Hx] at hv
       have es4:(((p.nt.length:Nat):Int) !=((p.tabs.length:Nat):Int))=false:=by simpa using congrArg Int.ofNat hs4
       replace hs4:=aa hs4
       by_cases hs5:1≤p.steps.length
       focus
        rw [decide_eq_true hs5,Hx] at hv
        have es5:¬((p.steps.length:Int)<1):=by omega
        have ds5:decide ((p.steps.length:Int)<1)=false:=decide_eq_false es5
        by_cases hs6:p.steps.length≤16
        focus
         rw [decide_eq_true hs6,Hx] at hv
         have es6:¬((16:Int)<(p.steps.length:Int)):=by omega
         have ds6:decide ((16:Int)<(p.steps.length:Int))=false:=decide_eq_false es6
         by_cases hs7:p.acts.length≤16
         focus
          rw [decide_eq_true hs7,Hx] at hv
          have es7:¬((16:Int)<(p.acts.length:Int)):=by omega
          have ds7:decide ((16:Int)<(p.acts.length:Int))=false:=decide_eq_false es7
          by_cases hs8:p.tabs.length≤8
          focus
           rw [decide_eq_true hs8,Hx] at hv
           have es8:¬((8:Int)<(p.tabs.length:Int)):=by omega
           have ds8:decide ((8:Int)<(p.tabs.length:Int))=false:=decide_eq_false es8
           cases D with
           |false=>
            rw [Hu] at hv
            go_wp2_with (first|(go_at_call 47;refine (hH.out _ (Hs _ _)).mono ?_;rintro e w3 ⟨rfl,hb3⟩;have ku:=ae hb3;have u0:=(ku.1 _ 0 hl1).trans y0;have u1:=(ku.1 _ 1 hl1).trans y1;have u2:=(ku.1 _ 2 hl1).trans y2;have u3:=(ku.1 _ 3 hl1).trans y3;have u4:=(ku.1 _ 4 hl1).trans y4;have u5:=(ku.1 _ 5 hl1).trans y5;have u6:=(ku.1 _ 6 hl1).trans y6;have u7:=(ku.1 _ 7 hl1).trans y7;have u8:=(ku.1 _ 8 hl1).trans y8;have u9:=(ku.1 _ 9 hl1).trans y9;have u10:=(ku.1 _ 10 hl1).trans y10;have u11:=(ku.1 _ 11 hl1).trans y11;clear ku;have lyu:=Hr hl1 hb3.size;have ju:=ae hb3;have ux0:=(ju.1 _ 0 hl2).trans x0;have ux1:=(ju.1 _ 1 hl2).trans x1;have ux2:=(ju.1 _ 2 hl2).trans x2;have ux3:=(ju.1 _ 3 hl2).trans x3;have ux4:=(ju.1 _ 4 hl2).trans x4;clear ju;have lxu:=Hr hl2 hb3.size)|(go_at_call 48;refine (hW.out _ hb3).mono ?_;rintro e w' ⟨rfl,rfl⟩)|(go_at_call 49;refine (hD.out _ hb3).mono ?_;rintro e w4 ⟨rfl,hb4'⟩;have hb4:=hb3.trans (hb4'.mono hb3.size);have kt:=ae hb4;have t0:=(kt.1 _ 0 hl1).trans y0;have t1:=(kt.1 _ 1 hl1).trans y1;have t2:=(kt.1 _ 2 hl1).trans y2;have t3:=(kt.1 _ 3 hl1).trans y3;have t4:=(kt.1 _ 4 hl1).trans y4;have t5:=(kt.1 _ 5 hl1).trans y5;have t6:=(kt.1 _ 6 hl1).trans y6;have t7:=(kt.1 _ 7 hl1).trans y7;have t8:=(kt.1 _ 8 hl1).trans y8;have t9:=(kt.1 _ 9 hl1).trans y9;have t10:=(kt.1 _ 10 hl1).trans y10;have t11:=(kt.1 _ 11 hl1).trans y11;clear kt;have lyt:=Hr hl1 hb4.size))
            go_ret
            exact ⟨ad hv.out.symm,hgo.out _ hb4⟩
           |true=>
            rw [Hx] at hv
            cases C with
            |false=>
             rw [Hu] at hv
             go_wp2_with (first|(go_at_call 47;refine (hH.out _ (Hs _ _)).mono ?_;rintro e w3 ⟨rfl,hb3⟩;have ku:=ae hb3;have u0:=(ku.1 _ 0 hl1).trans y0;have u1:=(ku.1 _ 1 hl1).trans y1;have u2:=(ku.1 _ 2 hl1).trans y2;have u3:=(ku.1 _ 3 hl1).trans y3;have u4:=(ku.1 _ 4 hl1).trans y4;have u5:=(ku.1 _ 5 hl1).trans y5;have u6:=(ku.1 _ 6 hl1).trans y6;have u7:=(ku.1 _ 7 hl1).trans y7;have u8:=(ku.1 _ 8 hl1).trans y8;have u9:=(ku.1 _ 9 hl1).trans y9;have u10:=(ku.1 _ 10 hl1).trans y10;have u11:=(ku.1 _ 11 hl1).trans y11;clear ku;have lyu:=Hr hl1 hb3.size;have ju:=ae hb3;have ux0:=(ju.1 _ 0 hl2).trans x0;have ux1:=(ju.1 _ 1 hl2).trans x1;have ux2:=(ju.1 _ 2 hl2).trans x2;have ux3:=(ju.1 _ 3 hl2).trans x3;have ux4:=(ju.1 _ 4 hl2).trans x4;clear ju;have lxu:=Hr hl2 hb3.size)|(go_at_call 48;refine (hW.out _ hb3).mono ?_;rintro e w' ⟨rfl,rfl⟩)|(go_at_call 49;refine (hD.out _ hb3).mono ?_;rintro e w4 ⟨rfl,hb4'⟩;have hb4:=hb3.trans (hb4'.mono hb3.size);have kt:=ae hb4;have t0:=(kt.1 _ 0 hl1).trans y0;have t1:=(kt.1 _ 1 hl1).trans y1;have t2:=(kt.1 _ 2 hl1).trans y2;have t3:=(kt.1 _ 3 hl1).trans y3;have t4:=(kt.1 _ 4 hl1).trans y4;have t5:=(kt.1 _ 5 hl1).trans y5;have t6:=(kt.1 _ 6 hl1).trans y6;have t7:=(kt.1 _ 7 hl1).trans y7;have t8:=(kt.1 _ 8 hl1).trans y8;have t9:=(kt.1 _ 9 hl1).trans y9;have t10:=(kt.1 _ 10 hl1).trans y10;have t11:=(kt.1 _ 11 hl1).trans y11;clear kt;have lyt:=Hr hl1 hb4.size)|(go_at_call 50;refine (hC.out _ hb4).mono ?_;rintro e w5 ⟨rfl,hb5'⟩;have hb5:=hb4.trans (hb5'.mono hb4.size)))
             go_ret
             exact ⟨ad hv.out.symm,hgo.out _ hb5⟩
            |true=>
             rw [Hx] at hv
             go_wp2_with (first|(go_at_call 47;refine (hH.out _ (Hs _ _)).mono ?_;rintro e w3 ⟨rfl,hb3⟩;have ku:=ae hb3;have u0:=(ku.1 _ 0 hl1).trans y0;have u1:=(ku.1 _ 1 hl1).trans y1;have u2:=(ku.1 _ 2 hl1).trans y2;have u3:=(ku.1 _ 3 hl1).trans y3;have u4:=(ku.1 _ 4 hl1).trans y4;have u5:=(ku.1 _ 5 hl1).trans y5;have u6:=(ku.1 _ 6 hl1).trans y6;have u7:=(ku.1 _ 7 hl1).trans y7;have u8:=(ku.1 _ 8 hl1).trans y8;have u9:=(ku.1 _ 9 hl1).trans y9;have u10:=(ku.1 _ 10 hl1).trans y10;have u11:=(ku.1 _ 11 hl1).trans y11;clear ku;have lyu:=Hr hl1 hb3.size;have ju:=ae hb3;have ux0:=(ju.1 _ 0 hl2).trans x0;have ux1:=(ju.1 _ 1 hl2).trans x1;have ux2:=(ju.1 _ 2 hl2).trans x2;have ux3:=(ju.1 _ 3 hl2).trans x3;have ux4:=(ju.1 _ 4 hl2).trans x4;clear ju;have lxu:=Hr hl2 hb3.size)|(go_at_call 48;refine (hW.out _ hb3).mono ?_;rintro e w' ⟨rfl,rfl⟩)|(go_at_call 49;refine (hD.out _ hb3).mono ?_;rintro e w4 ⟨rfl,hb4'⟩;have hb4:=hb3.trans (hb4'.mono hb3.size);have kt:=ae hb4;have t0:=(kt.1 _ 0 hl1).trans y0;have t1:=(kt.1 _ 1 hl1).trans y1;have t2:=(kt.1 _ 2 hl1).trans y2;have t3:=(kt.1 _ 3 hl1).trans y3;have t4:=(kt.1 _ 4 hl1).trans y4;have t5:=(kt.1 _ 5 hl1).trans y5;have t6:=(kt.1 _ 6 hl1).trans y6;have t7:=(kt.1 _ 7 hl1).trans y7;have t8:=(kt.1 _ 8 hl1).trans y8;have t9:=(kt.1 _ 9 hl1).trans y9;have t10:=(kt.1 _ 10 hl1).trans y10;have t11:=(kt.1 _ 11 hl1).trans y11;clear kt;have lyt:=Hr hl1 hb4.size)|(go_at_call 50;refine (hC.out _ hb4).mono ?_;rintro e w5 ⟨rfl,hb5'⟩;have hb5:=hb4.trans (hb5'.mono hb4.size)))
             replace hb5:=aa hb5
             clear hb3 hb4 hb4' hb5' hH hW hD hC u0 u1 u2 u3 u4 u5 u6 u7 u8 u9 u10 u11 t0 t1 t2 t3 t4 t5 t6 t7 t8 t9 t10 t11 ux0 x0 ux1 x1 ux2 x2 ux3 x3 ux4 x4 lyu lxu lyt
             generalize hF1:aZ (el p) p.steps=F1 at hv
             generalize hF2:(fun i=> !m6 p.steps (i:Nat))=F2 at hv
             generalize hF3:(fun i=>aZ (zi p i) p.acts i)=F3 at hv
             generalize hF4:aZ (mZ p) p.tabs=F4 at hv
             go_loopw [4] (fun i wr=>∃ k:Nat,k≤p.steps.length∧i=.int .i64 k∧Hid (ar F1 k=true)∧Hid (Below wa.heap.size wa wr)) (fun i _=>p.steps.length-(intOf i).toNat)
             case atStart=>exact ⟨0,Hz _,rfl,aa rfl,hb5⟩
             case round=>
              obtain ⟨k,hk,rfl,hcn,hG⟩:=hrel
              have hzr:=hG.out.size
              have hgG:=aa (fun W (hW:Below wr.heap.size wr W)=>hG.out.trans (hW.mono hzr))
              by_cases hlt:k<p.steps.length
              ·have hkz:(k:Int)<(p.steps.length:Int):=by omega
               have hNx:=aa (fun (g:F1 k=true)=>show ar F1 (k+1)=true from by rw [ar,hcn.out,g];rfl)
               have hlo:=aa (fun (g:F1 k=false)=>show ar F1 p.steps.length=false from ba hlt g)
               obtain ⟨b,o,B1,B2,B3,d1,d2,d3,hA3,hgl,n0,n1,n2,n3,hE1,hE2,hE3,-⟩:=(hPs.out wa (Hs _ _)).stp hlt
               subst hA3
               have hFk:F1 k=el p p.steps[k]:=by rw [←hF1];simp only [am _ hlt]
               generalize p.steps[k]=x at n0 n1 n2 n3 hE1 hE2 hE3 hFk
               have hX:∀ d os,Hid (Calls prog 51 #[.agg (aO A1 A2 (some ⟨b,o,none⟩) A4 A5 A6 A7 A8 A9 A10 A11 A12 p c1 c2 c3 c4 c5 c6 c7 c8 c9 c10 c11 c12),.agg #[.slice B1 x.takes.length d1,.slice B2 x.keys.length d2,.slice B3 x.brs.length d3,.int .i64 x.to]] (HG (redrawn wr d) os) _):=fun d os=>aa (hSt.out x B1 B2 B3 d1 d2 d3 _ (aU hG.out hzr d os) ((hE1.below ah (aU hG.out hzr d os)).more ah (Hw hzr (below_regrown wr d os).size)) ((hE2.below aV (aU hG.out hzr d os)).more aV (Hw hzr (below_regrown wr d os).size)) ((hE3.below bZ (aU hG.out hzr d os)).more bZ (Hw hzr (below_regrown wr d os).size)))
               obtain ⟨tks,ks,bs,tt⟩:=x
               simp only at n0 n1 n2 n3 hFk hX
               generalize el p ⟨tks,ks,bs,tt⟩=z at hX hFk
               have kbr:=ae hG.out
               have f0:=(kbr.1 _ (o+k*4) hgl).trans n0
               have f1:=(kbr.1 _ (o+k*4+1) hgl).trans n1
               have f2:=(kbr.1 _ (o+k*4+2) hgl).trans n2
               have f3:=(kbr.1 _ (o+k*4+3) hgl).trans n3
               have q0:=(kbr.1 _ 0 hl1).trans y0
               have q1:=(kbr.1 _ 1 hl1).trans y1
               have q2:=(kbr.1 _ 2 hl1).trans y2
               have q3:=(kbr.1 _ 3 hl1).trans y3
               have q4:=(kbr.1 _ 4 hl1).trans y4
               have q5:=(kbr.1 _ 5 hl1).trans y5
               have q6:=(kbr.1 _ 6 hl1).trans y6
               have q7:=(kbr.1 _ 7 hl1).trans y7
               have q8:=(kbr.1 _ 8 hl1).trans y8
               have q9:=(kbr.1 _ 9 hl1).trans y9
               have q10:=(kbr.1 _ 10 hl1).trans y10
               have q11:=(kbr.1 _ 11 hl1).trans y11
               have hgw:=aS (show Below wr.heap.size wr wr from Hs _ _) (Ht _)
               have hB1:=Hr hl1 hzr
               have hB2:=Hr hgl hzr
               clear kbr n0 n1 n2 n3 y0 y1 y2 y3 y4 y5 y6 y7 y8 y9 y10 y11 hE1 hE2 hE3
               cases z with
               |false=>
                rw [hlo.out hFk,Hu] at hv
                replace hFk:=aa hFk
                go_wp2_with fail
                refine cR ?_
                repeat (any_goals (first|go_big_quiet_step ((go_at_call 51;with_reducible exact Hv (hX _ _).out))|quiet_step ((go_at_call 51;with_reducible exact Hv (hX _ _).out))))
                refine wpQuiet_nil ?_
                intro wq hwq
                replace hwq:=ac hwq
                go_wp2
                go_ret
                exact ⟨ad hv.out.symm,hgo.out _ (hgG.out _ hwq)⟩
               |true=>
                replace hNx:=aa (hNx.out hFk)
                replace hFk:=aa hFk
                go_wp2_with fail
                refine cR ?_
                repeat (any_goals (first|go_big_quiet_step ((go_at_call 51;with_reducible exact Hv (hX _ _).out))|quiet_step ((go_at_call 51;with_reducible exact Hv (hX _ _).out))))
                refine wpQuiet_nil ?_
                intro wq hwq
                replace hwq:=ac hwq
                go_wp2
                go_roundw
                case rel=>exact ⟨k+1,by omega,by go_num,hNx,aa (hgG.out _ hwq)⟩
                case measure=>simp [intOf];omega
              ·have hke:k=p.steps.length:=by omega
               subst hke
               rw [hcn.out,Hx] at hv
               have hgr:=aa (se (p:=p) (by rw [hF1];exact hcn.out))
               have hfew:=aa (yb (p:=p) (by rw [hF1];exact hcn.out))
               replace hcn:=aa hcn.out
               clear hgG hSt hPs hF1
               obtain ⟨wb,rfl⟩:∃ wb:World,wb=wr:=⟨_,rfl⟩
               have kbr:=ae hG.out
               have q0:=(kbr.1 _ 0 hl1).trans y0
               have q1:=(kbr.1 _ 1 hl1).trans y1
               have q2:=(kbr.1 _ 2 hl1).trans y2
               have q3:=(kbr.1 _ 3 hl1).trans y3
               have q4:=(kbr.1 _ 4 hl1).trans y4
               have q5:=(kbr.1 _ 5 hl1).trans y5
               have q6:=(kbr.1 _ 6 hl1).trans y6
               have q7:=(kbr.1 _ 7 hl1).trans y7
               have q8:=(kbr.1 _ 8 hl1).trans y8
               have q9:=(kbr.1 _ 9 hl1).trans y9
               have q10:=(kbr.1 _ 10 hl1).trans y10
               have q11:=(kbr.1 _ 11 hl1).trans y11
               have hB1:=Hr hl1 hzr
               clear kbr
               go_wp2
               clear hB1 q0 q1 q2 q3 q4 q5 q6 q7 q8 q9 q10 q11
               go_loopw [5] (fun i wr=>∃ k:Nat,k≤p.steps.length∧i=.int .i64 k∧Hid (ar F2 k=true)∧Hid (Below wa.heap.size wa wr)) (fun i _=>p.steps.length-(intOf i).toNat)
               case atStart=>exact ⟨0,Hz _,rfl,aa rfl,hG⟩
               case round=>
                clear hG hzr
                obtain ⟨k,hk,rfl,hcn,hG⟩:=hrel
                have hzr:=hG.out.size
                have hgG:=aa (fun W (hW:Below wr.heap.size wr W)=>hG.out.trans (hW.mono hzr))
                by_cases hlt:k<p.steps.length
                ·have hkz:(k:Int)<(p.steps.length:Int):=by omega
                 have hNx:=aa (fun (g:F2 k=true)=>show ar F2 (k+1)=true from by rw [ar,hcn.out,g];rfl)
                 have hlo:=aa (fun (g:F2 k=false)=>show ar F2 p.steps.length=false from ba hlt g)
                 have hFk:F2 k= !m6 p.steps k:=by rw [←hF2]
                 have hX:=hCy.out k wr hG.out hlt hgr.out hfew.out hs6
                 generalize m6 p.steps (k:Nat)=z at hX hFk
                 replace hX:=aa hX
                 have kbr:=ae hG.out
                 have q0:=(kbr.1 _ 0 hl1).trans y0
                 have q1:=(kbr.1 _ 1 hl1).trans y1
                 have q2:=(kbr.1 _ 2 hl1).trans y2
                 have q3:=(kbr.1 _ 3 hl1).trans y3
                 have q4:=(kbr.1 _ 4 hl1).trans y4
                 have q5:=(kbr.1 _ 5 hl1).trans y5
                 have q6:=(kbr.1 _ 6 hl1).trans y6
                 have q7:=(kbr.1 _ 7 hl1).trans y7
                 have q8:=(kbr.1 _ 8 hl1).trans y8
                 have q9:=(kbr.1 _ 9 hl1).trans y9
                 have q10:=(kbr.1 _ 10 hl1).trans y10
                 have q11:=(kbr.1 _ 11 hl1).trans y11
                 have hB1:=Hr hl1 hzr
                 clear kbr y0 y1 y2 y3 y4 y5 y6 y7 y8 y9 y10 y11
                 cases z with
                 |false=>
                  replace hNx:=aa (hNx.out hFk)
                  replace hFk:=aa hFk
                  go_wp2_with (go_at_call 52;refine hX.out.mono ?_;rintro e w6 ⟨rfl,hb6⟩)
                  go_roundw
                  case rel=>exact ⟨k+1,by omega,by go_num,hNx,aa (hgG.out _ hb6)⟩
                  case measure=>simp [intOf];omega
                 |true=>
                  rw [hlo.out hFk,Hu] at hv
                  replace hFk:=aa hFk
                  go_wp2_with (go_at_call 52;refine hX.out.mono ?_;rintro e w6 ⟨rfl,hb6⟩)
                  go_ret
                  exact ⟨ad hv.out.symm,hgo.out _ (hgG.out _ hb6)⟩
                ·have hke:k=p.steps.length:=by omega
                 subst hke
                 rw [hcn.out,Hx] at hv
                 replace hcn:=aa hcn.out
                 clear hgG hCy hF2 hgr hfew
                 obtain ⟨wc,rfl⟩:∃ wc:World,wc=wr:=⟨_,rfl⟩
                 have kbr:=ae hG.out
                 have q0:=(kbr.1 _ 0 hl1).trans y0
                 have q1:=(kbr.1 _ 1 hl1).trans y1
                 have q2:=(kbr.1 _ 2 hl1).trans y2
                 have q3:=(kbr.1 _ 3 hl1).trans y3
                 have q4:=(kbr.1 _ 4 hl1).trans y4
                 have q5:=(kbr.1 _ 5 hl1).trans y5
                 have q6:=(kbr.1 _ 6 hl1).trans y6
                 have q7:=(kbr.1 _ 7 hl1).trans y7
                 have q8:=(kbr.1 _ 8 hl1).trans y8
                 have q9:=(kbr.1 _ 9 hl1).trans y9
                 have q10:=(kbr.1 _ 10 hl1).trans y10
                 have q11:=(kbr.1 _ 11 hl1).trans y11
                 have hB1:=Hr hl1 hzr
                 clear kbr
                 go_wp2
                 clear hB1 q0 q1 q2 q3 q4 q5 q6 q7 q8 q9 q10 q11
                 go_loopw [6,7] (fun i _ wr=>∃ k:Nat,k≤p.acts.length∧i=.int .i64 k∧Hid (ar F3 k=true)∧Hid (Below wa.heap.size wa wr)) (fun i _ _=>p.acts.length-(intOf i).toNat)
                 case atStart=>exact ⟨0,Hz _,rfl,aa rfl,hG⟩
                 case round=>
                  clear hG hzr
                  obtain ⟨k,hk,rfl,hcn,hG⟩:=hrel
                  have hzr:=hG.out.size
                  have hgG:=aa (fun W (hW:Below wr.heap.size wr W)=>hG.out.trans (hW.mono hzr))
                  by_cases hlt:k<p.acts.length
                  ·have hkz:(k:Int)<(p.acts.length:Int):=by omega
                   have hNx:=aa (fun (g:F3 k=true)=>show ar F3 (k+1)=true from by rw [ar,hcn.out,g];rfl)
                   have hlo:=aa (fun (g:F3 k=false)=>show ar F3 p.acts.length=false from ba hlt g)
                   obtain ⟨b,o,A',B',ca,cb,hAe,hb,n0,n1,hE1,hE2⟩:=(hPa.out wr hG.out).act hlt
                   subst hAe
                   have hFk:F3 k=(dU p.acts[k].params 8&&eR p k p.acts[k].body):=by rw [←hF3];simp only [am _ hlt];rfl
                   generalize p.acts[k]=x at n0 n1 hE1 hE2 hFk
                   obtain ⟨ps,body⟩:=x
                   simp only at n0 n1 hE1 hE2 hFk
                   rw [dU,Bool.and_assoc] at hFk
                   have lps:=hE1.len
                   have lbd:=hE2.len
                   obtain ⟨wn,hwn,hsn,hbn,hcl,-⟩:=af wr #[.slice A' ps.length ca,.slice B' body.length cb] 85
                   have kbw:=ae hG.out
                   have v3:=(kbw.1 _ 3 hl1).trans y3
                   clear kbw
                   have hB0:w.heap.size<wr.heap.size:=Hr hl1 hzr
                   have m0:wn.cell? ⟨wr.heap.size,0,none⟩=some (.slice A' ps.length ca):=hcl 0
                   have m1:wn.cell? ⟨wr.heap.size,1,none⟩=some (.slice B' body.length cb):=hcl 1
                   have hGn:Below wa.heap.size wa wn:=hG.out.trans (hbn.mono hzr)
                   have kbr:=ae hGn
                   have q0:=(kbr.1 _ 0 hl1).trans y0
                   have q1:=(kbr.1 _ 1 hl1).trans y1
                   have q2:=(kbr.1 _ 2 hl1).trans y2
                   have q3:=(kbr.1 _ 3 hl1).trans y3
                   have q4:=(kbr.1 _ 4 hl1).trans y4
                   have q5:=(kbr.1 _ 5 hl1).trans y5
                   have q6:=(kbr.1 _ 6 hl1).trans y6
                   have q7:=(kbr.1 _ 7 hl1).trans y7
                   have q8:=(kbr.1 _ 8 hl1).trans y8
                   have q9:=(kbr.1 _ 9 hl1).trans y9
                   have q10:=(kbr.1 _ 10 hl1).trans y10
                   have q11:=(kbr.1 _ 11 hl1).trans y11
                   have hB1:w.heap.size<wn.heap.size:=Hr hl1 hGn.size
                   have hB2:wr.heap.size<wn.heap.size:=by omega
                   have hW8:=iA A' ca ps wn ((hE1.below ah hbn).more ah hbn.size)
                   have hE2n:=(hE2.below bz hbn).more bz hbn.size
                   have hI8:=hIa.out k body B' cb wn hGn hE2n
                   generalize ps.all aj=W1 at hW8 hFk
                   generalize eR p k body=I1 at hI8 hFk
                   replace hW8:=aa hW8
                   replace hI8:=aa hI8
                   replace hGn:=aa hGn
                   replace hsn:=aa hsn
                   clear hcl hbn hE1 hE2 hE2n kbr y0 y1 y2 y3 y4 y5 y6 y7 y8 y9 y10 y11
                   by_cases h8:ps.length≤8
                   ·rw [decide_eq_true h8,Hx] at hFk
                    have h8z:¬((8:Int)<(ps.length:Int)):=by omega
                    cases W1 with
                    |false=>
                     rw [Hu] at hFk
                     rw [hlo.out hFk,Hu] at hv
                     replace hFk:=aa hFk
                     go_wp2_with (go_at_call 48;refine hW8.out.mono ?_;rintro e w' ⟨rfl,rfl⟩)
                     go_ret
                     exact ⟨ad hv.out.symm,hgo.out _ hGn.out⟩
                    |true=>
                     rw [Hx] at hFk
                     cases I1 with
                     |false=>
                      rw [hlo.out hFk,Hu] at hv
                      replace hFk:=aa hFk
                      go_wp2_with (first|(go_at_call 48;refine hW8.out.mono ?_;rintro e w' ⟨rfl,rfl⟩)|(go_at_call 50;refine hI8.out.mono ?_;rintro e w7 ⟨rfl,hb7⟩))
                      go_ret
                      exact ⟨ad hv.out.symm,hgo.out _ (hGn.out.trans (hb7.mono hGn.out.size))⟩
                     |true=>
                      replace hNx:=aa (hNx.out hFk)
                      replace hFk:=aa hFk
                      go_wp2_with (first|(go_at_call 48;refine hW8.out.mono ?_;rintro e w' ⟨rfl,rfl⟩)|(go_at_call 50;refine hI8.out.mono ?_;rintro e w7 ⟨rfl,hb7⟩))
                      go_roundw
                      case rel=>exact ⟨k+1,by omega,by go_num,hNx,aa (hGn.out.trans (hb7.mono hGn.out.size))⟩
                      case measure=>simp [intOf];omega
                   ·rw [decide_eq_false h8,Hu] at hFk
                    rw [hlo.out hFk,Hu] at hv
                    have h8z:((8:Int)<(ps.length:Int)):=by omega
                    replace hFk:=aa hFk
                    go_wp2
                    go_ret
                    exact ⟨ad hv.out.symm,hgo.out _ hGn.out⟩
                  ·have hke:k=p.acts.length:=by omega
                   subst hke
                   rw [hcn.out,Hx] at hv
                   replace hcn:=aa hcn.out
                   clear hgG hIa hPa hF3
                   obtain ⟨wd,rfl⟩:∃ wd:World,wd=wr:=⟨_,rfl⟩
                   have kbr:=ae hG.out
                   have q0:=(kbr.1 _ 0 hl1).trans y0
                   have q1:=(kbr.1 _ 1 hl1).trans y1
                   have q2:=(kbr.1 _ 2 hl1).trans y2
                   have q3:=(kbr.1 _ 3 hl1).trans y3
                   have q4:=(kbr.1 _ 4 hl1).trans y4
                   have q5:=(kbr.1 _ 5 hl1).trans y5
                   have q6:=(kbr.1 _ 6 hl1).trans y6
                   have q7:=(kbr.1 _ 7 hl1).trans y7
                   have q8:=(kbr.1 _ 8 hl1).trans y8
                   have q9:=(kbr.1 _ 9 hl1).trans y9
                   have q10:=(kbr.1 _ 10 hl1).trans y10
                   have q11:=(kbr.1 _ 11 hl1).trans y11
                   have hB1:=Hr hl1 hzr
                   clear kbr
                   go_wp2
                   clear hB1 q0 q1 q2 q3 q4 q5 q6 q7 q8 q9 q10 q11
                   go_loopw [8] (fun i wr=>∃ k:Nat,k≤p.tabs.length∧i=.int .i64 k∧Hid (ar F4 k=true)∧Hid (Below wa.heap.size wa wr)) (fun i _=>p.tabs.length-(intOf i).toNat)
                   case atStart=>exact ⟨0,Hz _,rfl,aa rfl,hG⟩
                   case round=>
                    clear hG hzr
                    obtain ⟨k,hk,rfl,hcn,hG⟩:=hrel
                    have hzr:=hG.out.size
                    have hgG:=aa (fun W (hW:Below wr.heap.size wr W)=>hG.out.trans (hW.mono hzr))
                    by_cases hlt:k<p.tabs.length
                    ·have hkz:(k:Int)<(p.tabs.length:Int):=by omega
                     have hNx:=aa (fun (g:F4 k=true)=>show ar F4 (k+1)=true from by rw [ar,hcn.out,g];rfl)
                     have hlo:=aa (fun (g:F4 k=false)=>show ar F4 p.tabs.length=false from ba hlt g)
                     obtain ⟨b,o,B1,B2,B3,B4,d1,d2,d3,d4,hA5,hgl,n0,n1,n2,n3,n4,hE1,hE2,hE3,hE4,hE5⟩:=(hPt.out wa (Hs _ _)).ltb hlt
                     subst hA5
                     have hFk:F4 k=mZ p p.tabs[k]:=by rw [←hF4];simp only [am _ hlt]
                     generalize p.tabs[k]=x at n0 n1 n2 n3 n4 hE1 hE2 hE3 hE4 hE5 hFk
                     have hX:∀ d os,Hid (Calls prog 53 #[.agg (aO A1 A2 A3 A4 (some ⟨b,o,none⟩) A6 A7 A8 A9 A10 A11 A12 p c1 c2 c3 c4 c5 c6 c7 c8 c9 c10 c11 c12),.agg #[.slice B1 x.keys.length d1,.slice B2 x.kinds.length d2,.slice B3 x.acts.length d3,.int .i64 x.run.act,.slice B4 x.run.args.length d4]] (HG (redrawn wr d) os) _):=fun d os=>aa (hTa.out x B1 B2 B3 B4 d1 d2 d3 d4 _ (aU hG.out hzr d os) ((hE1.below aV (aU hG.out hzr d os)).more aV (Hw hzr (below_regrown wr d os).size)) ((hE2.below cw (aU hG.out hzr d os)).more cw (Hw hzr (below_regrown wr d os).size)) ((hE3.below ah (aU hG.out hzr d os)).more ah (Hw hzr (below_regrown wr d os).size)) ((hE4.below aq (aU hG.out hzr d os)).more aq (Hw hzr (below_regrown wr d os).size)) hE5)
                     obtain ⟨tks,kds,acs,⟨ra,rg⟩⟩:=x
                     simp only at n0 n1 n2 n3 n4 hFk hX
                     generalize mZ p ⟨tks,kds,acs,⟨ra,rg⟩⟩=z at hX hFk
                     have kbr:=ae hG.out
                     have f0:=(kbr.1 _ (o+k*5) hgl).trans n0
                     have f1:=(kbr.1 _ (o+k*5+1) hgl).trans n1
                     have f2:=(kbr.1 _ (o+k*5+2) hgl).trans n2
                     have f3:=(kbr.1 _ (o+k*5+3) hgl).trans n3
                     have f4:=(kbr.1 _ (o+k*5+4) hgl).trans n4
                     have q0:=(kbr.1 _ 0 hl1).trans y0
                     have q1:=(kbr.1 _ 1 hl1).trans y1
                     have q2:=(kbr.1 _ 2 hl1).trans y2
                     have q3:=(kbr.1 _ 3 hl1).trans y3
                     have q4:=(kbr.1 _ 4 hl1).trans y4
                     have q5:=(kbr.1 _ 5 hl1).trans y5
                     have q6:=(kbr.1 _ 6 hl1).trans y6
                     have q7:=(kbr.1 _ 7 hl1).trans y7
                     have q8:=(kbr.1 _ 8 hl1).trans y8
                     have q9:=(kbr.1 _ 9 hl1).trans y9
                     have q10:=(kbr.1 _ 10 hl1).trans y10
                     have q11:=(kbr.1 _ 11 hl1).trans y11
                     have hgw:=aS (show Below wr.heap.size wr wr from Hs _ _) (Ht _)
                     have hB1:=Hr hl1 hzr
                     have hB2:=Hr hgl hzr
                     clear kbr n0 n1 n2 n3 n4 y0 y1 y2 y3 y4 y5 y6 y7 y8 y9 y10 y11 hE1 hE2 hE3 hE4
                     cases z with
                     |false=>
                      rw [hlo.out hFk] at hv
                      replace hFk:=aa hFk
                      go_wp2_with fail
                      refine cR ?_
                      repeat (any_goals (first|go_big_quiet_step ((go_at_call 53;with_reducible exact Hv (hX _ _).out))|quiet_step ((go_at_call 53;with_reducible exact Hv (hX _ _).out))))
                      refine wpQuiet_nil ?_
                      intro wq hwq
                      replace hwq:=ac hwq
                      go_wp2
                      go_ret
                      exact ⟨ad hv.out.symm,hgo.out _ (hgG.out _ hwq)⟩
                     |true=>
                      replace hNx:=aa (hNx.out hFk)
                      replace hFk:=aa hFk
                      go_wp2_with fail
                      refine cR ?_
                      repeat (any_goals (first|go_big_quiet_step ((go_at_call 53;with_reducible exact Hv (hX _ _).out))|quiet_step ((go_at_call 53;with_reducible exact Hv (hX _ _).out))))
                      refine wpQuiet_nil ?_
                      intro wq hwq
                      replace hwq:=ac hwq
                      go_wp2
                      go_roundw
                      case rel=>exact ⟨k+1,by omega,by go_num,hNx,aa (hgG.out _ hwq)⟩
                      case measure=>simp [intOf];omega
                    ·have hke:k=p.tabs.length:=by omega
                     subst hke
                     rw [hcn.out] at hv
                     have kbr:=ae hG.out
                     have q0:=(kbr.1 _ 0 hl1).trans y0
                     have q1:=(kbr.1 _ 1 hl1).trans y1
                     have q2:=(kbr.1 _ 2 hl1).trans y2
                     have q3:=(kbr.1 _ 3 hl1).trans y3
                     have q4:=(kbr.1 _ 4 hl1).trans y4
                     have q5:=(kbr.1 _ 5 hl1).trans y5
                     have q6:=(kbr.1 _ 6 hl1).trans y6
                     have q7:=(kbr.1 _ 7 hl1).trans y7
                     have q8:=(kbr.1 _ 8 hl1).trans y8
                     have q9:=(kbr.1 _ 9 hl1).trans y9
                     have q10:=(kbr.1 _ 10 hl1).trans y10
                     have q11:=(kbr.1 _ 11 hl1).trans y11
                     have hB1:=Hr hl1 hzr
                     clear kbr
                     go_wp2
                     go_ret
                     exact ⟨ad hv.out.symm,hgo.out _ hG.out⟩
          rotate_right
          rw [decide_eq_false hs8] at hv
          have es8:((8:Int)<(p.tabs.length:Int)):=by omega
          have ds8:decide ((8:Int)<(p.tabs.length:Int))=true:=decide_eq_true es8
         rotate_right
         rw [decide_eq_false hs7] at hv
         have es7:((16:Int)<(p.acts.length:Int)):=by omega
         have ds7:decide ((16:Int)<(p.acts.length:Int))=true:=decide_eq_true es7
        rotate_right
        rw [decide_eq_false hs6] at hv
        have es6:((16:Int)<(p.steps.length:Int)):=by omega
        have ds6:decide ((16:Int)<(p.steps.length:Int))=true:=decide_eq_true es6
       rotate_right
       rw [decide_eq_false hs5] at hv
       have es5:((p.steps.length:Int)<1):=by omega
       have ds5:decide ((p.steps.length:Int)<1)=true:=decide_eq_true es5
      rotate_right
      rw [decide_eq_false hs4] at hv
      have es4:(((p.nt.length:Nat):Int) !=((p.tabs.length:Nat):Int))=true:=by rw [bne_iff_ne];omega
      replace hs4:=aa hs4
     rotate_right
     rw [decide_eq_false hs3] at hv
     have es3:(((p.na.length:Nat):Int) !=((p.acts.length:Nat):Int))=true:=by rw [bne_iff_ne];omega
     replace hs3:=aa hs3
    rotate_right
    rw [decide_eq_false hs2] at hv
    have es2:(((p.nm.length:Nat):Int) !=((p.metas.length:Nat):Int))=true:=by rw [bne_iff_ne];omega
    replace hs2:=aa hs2
  rotate_right
  focus
   rw [decide_eq_false hs1] at hv
   have es1:((16:Int)<(p.metas.length:Int)):=by omega
   have ds1:decide ((16:Int)<(p.metas.length:Int))=true:=decide_eq_true es1
   rw [Hu] at hv
   go_wp2_with (go_at_call 47;refine (hH.out _ (Hs _ _)).mono ?_;rintro e w3 ⟨rfl,hb3⟩;have ku:=ae hb3;have u0:=(ku.1 _ 0 hl1).trans y0;have u1:=(ku.1 _ 1 hl1).trans y1;have u2:=(ku.1 _ 2 hl1).trans y2;have u3:=(ku.1 _ 3 hl1).trans y3;have u4:=(ku.1 _ 4 hl1).trans y4;have u5:=(ku.1 _ 5 hl1).trans y5;have u6:=(ku.1 _ 6 hl1).trans y6;have u7:=(ku.1 _ 7 hl1).trans y7;have u8:=(ku.1 _ 8 hl1).trans y8;have u9:=(ku.1 _ 9 hl1).trans y9;have u10:=(ku.1 _ 10 hl1).trans y10;have u11:=(ku.1 _ 11 hl1).trans y11;clear ku;have lyu:=Hr hl1 hb3.size;have ju:=ae hb3;have ux0:=(ju.1 _ 0 hl2).trans x0;have ux1:=(ju.1 _ 1 hl2).trans x1;have ux2:=(ju.1 _ 2 hl2).trans x2;have ux3:=(ju.1 _ 3 hl2).trans x3;have ux4:=(ju.1 _ 4 hl2).trans x4;clear ju;have lxu:=Hr hl2 hb3.size)
   go_ret
   exact ⟨ad hv.out.symm,hgo.out _ hb3⟩
 all_goals
  rw [Hu] at hv
  go_wp2_with (first|(go_at_call 47;refine (hH.out _ (Hs _ _)).mono ?_;rintro e w3 ⟨rfl,hb3⟩;have ku:=ae hb3;have u0:=(ku.1 _ 0 hl1).trans y0;have u1:=(ku.1 _ 1 hl1).trans y1;have u2:=(ku.1 _ 2 hl1).trans y2;have u3:=(ku.1 _ 3 hl1).trans y3;have u4:=(ku.1 _ 4 hl1).trans y4;have u5:=(ku.1 _ 5 hl1).trans y5;have u6:=(ku.1 _ 6 hl1).trans y6;have u7:=(ku.1 _ 7 hl1).trans y7;have u8:=(ku.1 _ 8 hl1).trans y8;have u9:=(ku.1 _ 9 hl1).trans y9;have u10:=(ku.1 _ 10 hl1).trans y10;have u11:=(ku.1 _ 11 hl1).trans y11;clear ku;have lyu:=Hr hl1 hb3.size;have ju:=ae hb3;have ux0:=(ju.1 _ 0 hl2).trans x0;have ux1:=(ju.1 _ 1 hl2).trans x1;have ux2:=(ju.1 _ 2 hl2).trans x2;have ux3:=(ju.1 _ 3 hl2).trans x3;have ux4:=(ju.1 _ 4 hl2).trans x4;clear ju;have lxu:=Hr hl2 hb3.size)|(go_at_call 48;refine (hW.out _ hb3).mono ?_;rintro e w' ⟨rfl,rfl⟩))
  go_ret
  exact ⟨ad hv.out.symm,hgo.out _ hb3⟩
abbrev Ev (x:Pt):Value:=.agg #[.int .u64 x.vh,.int .u64 x.vl,.int .u64 x.mh,.int .u64 x.ml]
theorem mI {f:Nat→Bool} {k:Nat} (h:(HX k).all f=true) (hk:f k=true):(HX (k+1)).all f=true:=by
 rw [List.range_succ,List.all_append,h,List.all_cons,hk];rfl
theorem jl {f:Nat→Bool} {k n:Nat} (hk:k<n) (h:f k=false):(HX n).all f=false:=by
 cases hc:(HX n).all f with
 |false=>rfl
 |true=>rw [HT.1 hc k (H5.2 hk)] at h;cases h
theorem oJ (x:Pt) (y:Int) (w:World) (hx:fT x):Calls prog 56 #[Ev x,.int .i64 y] w fun e w'=>e=.returned (.bool (eJ y x))∧Below w.heap.size w w':=by
 obtain ⟨hu1,hu2,hu3,hu4⟩:=hx
 have hB:=aa (fun (hi lo:Int) (h1:aW hi) (h2:aW lo) (j:Nat) (hj:j<128) (W:World)=>nT hi lo j W h1 h2 hj)
 have hv:=aa (show eJ y x=(aj y&&(HX 128).all (zw y x)) from rfl)
 have hpb:=aa (fun k=>show zw y x k= !(nB x.vh x.vl k&& !nB x.mh x.ml k ||decide (y≤(k:Int))&&nB x.mh x.ml k) from rfl)
 generalize zw y x=f at hv hpb
 obtain ⟨vh,vl,mh,ml⟩:=x
 simp only at hu1 hu2 hu3 hu4 hpb ⊢
 obtain ⟨wa,hwa,hsa,hba,hca,-⟩:=af w #[.int .u64 vh,.int .u64 vl,.int .u64 mh,.int .u64 ml] 101
 have x0:wa.cell? ⟨w.heap.size,0,none⟩=some (.int .u64 vh):=hca 0
 have x1:wa.cell? ⟨w.heap.size,1,none⟩=some (.int .u64 vl):=hca 1
 have x2:wa.cell? ⟨w.heap.size,2,none⟩=some (.int .u64 mh):=hca 2
 have x3:wa.cell? ⟨w.heap.size,3,none⟩=some (.int .u64 ml):=hca 3
 have hlt:w.heap.size<wa.heap.size:=by omega
 have hfin:=aa (fun w1 (h:Below wa.heap.size wa w1)=>hba.trans (h.mono (show w.heap.size≤wa.heap.size by omega)))
 replace hsa:=aa hsa
 clear hca hba
 by_cases h1:1≤y
 focus
  by_cases h2:y≤128
  focus
   have d1:decide (y<1)=false:=decide_eq_false (by omega)
   have d2:decide ((128:Int)<y)=false:=decide_eq_false (by omega)
   have hw:aj y=true:=(aC y).2 ⟨h1,h2⟩
   rw [hw,Hx] at hv
   clear hw
   go_enter func56,ntmps56
   go_wp2
   go_loopw [5] (fun i wr=>∃ k:Nat,k≤128∧i=.int .i64 k∧Hid ((HX k).all f=true)∧Hid (Below wa.heap.size wa wr)) (fun i _=>128-(intOf i).toNat)
   case atStart=>exact ⟨0,Hz _,rfl,aa rfl,aa (Hs _ _)⟩
   case round=>
    obtain ⟨k,hk,rfl,hc,hbz⟩:=hrel
    by_cases hlk:k<128
    ·have hkz:(k:Int)<128:=by omega
     have kk:=ae hbz.out
     have p0:=(kk.1 _ 0 hlt).trans x0
     have p1:=(kk.1 _ 1 hlt).trans x1
     have p2:=(kk.1 _ 2 hlt).trans x2
     have p3:=(kk.1 _ 3 hlt).trans x3
     have hzz:=hbz.out.size
     have hlx:=Hr hlt hzz
     clear kk x0 x1 x2 x3 hlt
     have hV:=hB.out vh vl hu1 hu2 k hlk
     have hM:=hB.out mh ml hu3 hu4 k hlk
     have hok:=aa (fun h:f k=true=>mI hc.out h)
     have hno:=aa (fun h:f k=false=>show eJ y ⟨vh,vl,mh,ml⟩=false by rw [hv.out];exact jl hlk h)
     have hfk:=hpb.out k
     generalize f k=F at hfk hok hno
     generalize nB vh vl k=a at hV hfk
     generalize nB mh ml k=b at hM hfk
     replace hV:=aa hV
     replace hM:=aa hM
     have hyk:decide ((k:Int)≥y)=decide (y≤(k:Int)):=rfl
     clear hyk hv hpb hc hu1 hu2 hu3 hu4 hk
     by_cases hy:y≤(k:Int)
     case' pos=>have dy:decide (y≤(k:Int))=true:=decide_eq_true hy
     case' neg=>have dy:decide (y≤(k:Int))=false:=decide_eq_false hy
     all_goals (
      rw [dy] at hfk
      cases a<;>cases b)
     all_goals (
      first
      | (have hF:F=false:=hfk
         replace hno:=aa (hno.out hF)
         clear hok hfk hF)
      | (have hF:F=true:=hfk
         replace hok:=aa (hok.out hF)
         clear hno hfk hF)
      go_wp2_with (first|(go_at_call 111;(with_reducible refine (hV.out _).mono ?_);rintro e w' ⟨rfl,hb'⟩;have hs':=hb'.size;replace p0:=(hb'.cell (p:=⟨w.heap.size,0,none⟩) hlx).trans p0;replace p1:=(hb'.cell (p:=⟨w.heap.size,1,none⟩) hlx).trans p1;replace p2:=(hb'.cell (p:=⟨w.heap.size,2,none⟩) hlx).trans p2;replace p3:=(hb'.cell (p:=⟨w.heap.size,3,none⟩) hlx).trans p3;replace hlx:=Hr hlx hs';replace hbz:=aa (hbz.out.trans (hb'.mono hzz));replace hzz:=Hw hzz hs';clear hb' hs')|(go_at_call 111;(with_reducible refine (hM.out _).mono ?_);rintro e w' ⟨rfl,hb'⟩;have hs':=hb'.size;replace p0:=(hb'.cell (p:=⟨w.heap.size,0,none⟩) hlx).trans p0;replace p1:=(hb'.cell (p:=⟨w.heap.size,1,none⟩) hlx).trans p1;replace p2:=(hb'.cell (p:=⟨w.heap.size,2,none⟩) hlx).trans p2;replace p3:=(hb'.cell (p:=⟨w.heap.size,3,none⟩) hlx).trans p3;replace hlx:=Hr hlx hs';replace hbz:=aa (hbz.out.trans (hb'.mono hzz));replace hzz:=Hw hzz hs';clear hb' hs'))
      first
      | (go_ret
         exact ⟨ad hno.out.symm,hfin.out _ hbz.out⟩)
      | (go_roundw
         case rel=>exact ⟨k+1,by omega,by go_num,hok,hbz⟩
         case measure=>simp [intOf];omega))
    ·have hke:k=128:=by omega
     subst hke
     have hv2:=aa (show eJ y ⟨vh,vl,mh,ml⟩=true by rw [hv.out];exact hc.out)
     go_wp2
     go_ret
     exact ⟨ad hv2.out.symm,hfin.out _ hbz.out⟩
  rotate_right
  have d1:decide (y<1)=false:=decide_eq_false (by omega)
  have d2:decide ((128:Int)<y)=true:=decide_eq_true (by omega)
  have hv2:=aa (show eJ y ⟨vh,vl,mh,ml⟩=false by rw [hv.out,show aj y=false by simp [aj,h2]];rfl)
 rotate_right
 have d1:decide (y<1)=true:=decide_eq_true (by omega)
 have hv2:=aa (show eJ y ⟨vh,vl,mh,ml⟩=false by rw [hv.out,show aj y=false by simp [aj,h1]];rfl)
 all_goals
  go_enter func56,ntmps56
  go_wp2
  go_ret
  exact ⟨ad hv2.out.symm,hfin.out _ (Hs _ _)⟩
theorem BG {M w n:Nat} (hn:n≤w) (h1:∀ i,w-n≤i→i<w→M.testBit i=true) (h2:n<w→M.testBit (w-1-n)=false):sU w M=if (HX (w-n)).all (fun i=> !M.testBit i) then some n else none:=by
 unfold sU
 rw [uJ hn h1 h2]
theorem Ew {y:Int} {x:Pt} {n:Nat} (hm:eJ y x=true) (hn:n≤y.toNat) (h1:∀ i,y.toNat-n≤i→i<y.toNat→(nv x.mh x.ml).testBit i=true) (h2:n<y.toNat→(nv x.mh x.ml).testBit (y.toNat-1-n)=false):
  yA y x=if (HX (y.toNat-n)).all (fun i=> !(nv x.mh x.ml).testBit i) then ((n:Int),true) else (0,false):=by
 unfold yA m9
 rw [if_pos hm,BG hn h1 h2]
 by_cases h:(HX (y.toNat-n)).all (fun i=> !(nv x.mh x.ml).testBit i)=true
 ·rw [if_pos h,if_pos h]
 ·rw [if_neg h,if_neg h]
theorem yg (x:Pt) (y:Int) (w:World) (hx:fT x):Calls prog 57 #[Ev x,.int .i64 y] w fun e w'=>e=.returned (.tuple #[.int .i64 (yA y x).1,.bool (yA y x).2])∧Below w.heap.size w w':=by
 have hP:=aa (fun W=>oJ x y W hx)
 obtain ⟨hu1,hu2,hu3,hu4⟩:=hx
 have hB:=aa (fun (j:Nat) (hj:j<128) (W:World)=>nT x.mh x.ml j W hu3 hu4 hj)
 have hnb:=aa (fun j=>zv hu3 hu4 j)
 obtain ⟨wa,hwa,hsa,hba,hca,-⟩:=af w #[.int .u64 x.vh,.int .u64 x.vl,.int .u64 x.mh,.int .u64 x.ml] 101
 have p0:wa.cell? ⟨w.heap.size,0,none⟩=some (.int .u64 x.vh):=hca 0
 have p1:wa.cell? ⟨w.heap.size,1,none⟩=some (.int .u64 x.vl):=hca 1
 have p2:wa.cell? ⟨w.heap.size,2,none⟩=some (.int .u64 x.mh):=hca 2
 have p3:wa.cell? ⟨w.heap.size,3,none⟩=some (.int .u64 x.ml):=hca 3
 have hlx:w.heap.size<wa.heap.size:=by omega
 have q0:=p0
 have q1:=p1
 have q2:=p2
 have q3:=p3
 have hl0:=hlx
 have hfin:=aa (fun w1 (h:Below wa.heap.size wa w1)=>hba.trans (h.mono (show w.heap.size≤wa.heap.size by omega)))
 have hbz:=aa (Hs wa.heap.size wa)
 have hzz:wa.heap.size≤wa.heap.size:=Ht _
 replace hsa:=aa hsa
 clear hca hba
 cases hm:eJ y x with
 |false=>
  have hv:=aa (show yA y x=(0,false) by unfold yA m9;rw [hm];rfl)
  rw [hm] at hP
  clear hm
  go_enter func57,ntmps57
  go_wp2_with (go_at_call 56;refine (hP.out _).mono ?_;rintro e w1 ⟨rfl,hb1⟩)
  refine bodyPost_ret (v:=.tuple #[.int .i64 0,.bool false]) (by simp [results,results57,go_sem]) rfl ⟨by rw [hv.out],hfin.out _ hb1⟩
 |true=>
  have hw:1≤y∧y≤128:=by
   unfold eJ at hm
   rw [Hy] at hm
   exact (aC y).1 hm.1
  obtain ⟨v,rfl⟩:=HH (show 0≤y by omega)
  have hof:=aa (fun (n:Nat)=>Ew (n:=n) hm)
  rw [hm] at hP
  clear hm
  simp only [HQ] at hof
  generalize yA (v:Int) x=RES at hof ⊢
  generalize nv x.mh x.ml=M at hof hnb
  generalize hmb:(fun j=>nB x.mh x.ml j)=mb at hB hnb
  have hmb':∀ j,nB x.mh x.ml j=mb j:=fun j=>by rw [←hmb]
  simp only [hmb'] at hB hnb
  clear hmb hmb'
  go_enter func57,ntmps57
  go_wp2_with (go_at_call 56;refine (hP.out _).mono ?_;rintro e w1 ⟨rfl,hb1⟩)
  have hw1:IntKind.i64.wrap ((v:Int)-1)=(v:Int)-1:=by rw [IntKind.wrap_i64];omega
  go_loopw [6] (fun i wr=>∃ k:Nat,k≤v∧i=.int .i64 k∧Hid (∀ i,v-k≤i→i<v→M.testBit i=true)∧Hid (Below wa.heap.size wa wr)) (fun i _=>v-(intOf i).toNat)
  case atStart=>exact ⟨0,Hz _,rfl,aa (fun i a b=>absurd b (by omega)),aa hb1⟩
  case round=>
   clear hb1 hbz hzz
   obtain ⟨n,hn,rfl,hones,hbz⟩:=hrel
   have kk:=ae hbz.out
   replace p0:=(kk.1 _ 0 hlx).trans p0
   replace p1:=(kk.1 _ 1 hlx).trans p1
   replace p2:=(kk.1 _ 2 hlx).trans p2
   replace p3:=(kk.1 _ 3 hlx).trans p3
   have hzz:=hbz.out.size
   replace hlx:=Hr hlx hzz
   clear kk
   by_cases hnv:n<v
   ·have hnz:(n:Int)<(v:Int):=by omega
    have hM:=hB.out (v-1-n) (by omega)
    rw [show (((v-1-n:Nat)):Int)=(v:Int)-1-n by omega] at hM
    have hbit:=(hnb.out (v-1-n)).symm
    have hw2:IntKind.i64.wrap ((v:Int)-1-n)=(v:Int)-1-n:=by rw [IntKind.wrap_i64];omega
    generalize mb (v-1-n)=b at hM hbit
    replace hM:=aa hM
    cases b with
    |true=>
     have hones2:=aa (show ∀ i,v-(n+1)≤i→i<v→M.testBit i=true from fun i a b=>by
      by_cases h:i=v-1-n
      ·rw [h];exact hbit
      ·exact hones.out i (by omega) b)
     clear hbit hones
     go_wp2_with (first|(go_at_call 56;refine (hP.out _).mono ?_;rintro e w1 ⟨rfl,hb1⟩)|(go_at_call 111;(with_reducible refine (hM.out _).mono ?_);rintro e w' ⟨rfl,hb'⟩;have hs':=hb'.size;replace p0:=(hb'.cell (p:=⟨w.heap.size,0,none⟩) hlx).trans p0;replace p1:=(hb'.cell (p:=⟨w.heap.size,1,none⟩) hlx).trans p1;replace p2:=(hb'.cell (p:=⟨w.heap.size,2,none⟩) hlx).trans p2;replace p3:=(hb'.cell (p:=⟨w.heap.size,3,none⟩) hlx).trans p3;replace hlx:=Hr hlx hs';replace hbz:=aa (hbz.out.trans (hb'.mono hzz));replace hzz:=Hw hzz hs';clear hb' hs'))
     go_roundw
     case rel=>exact ⟨n+1,by omega,by go_num,hones2,hbz⟩
     case measure=>simp [intOf];omega
    |false=>
     have hres:=aa (hof.out n (by omega) hones.out (fun _=>hbit))
     clear hbit hones hof
     go_wp2_with (first|(go_at_call 56;refine (hP.out _).mono ?_;rintro e w1 ⟨rfl,hb1⟩)|(go_at_call 111;(with_reducible refine (hM.out _).mono ?_);rintro e w' ⟨rfl,hb'⟩;have hs':=hb'.size;replace p0:=(hb'.cell (p:=⟨w.heap.size,0,none⟩) hlx).trans p0;replace p1:=(hb'.cell (p:=⟨w.heap.size,1,none⟩) hlx).trans p1;replace p2:=(hb'.cell (p:=⟨w.heap.size,2,none⟩) hlx).trans p2;replace p3:=(hb'.cell (p:=⟨w.heap.size,3,none⟩) hlx).trans p3;replace hlx:=Hr hlx hs';replace hbz:=aa (hbz.out.trans (hb'.mono hzz));replace hzz:=Hw hzz hs';clear hb' hs'))
     go_loopw [7] (fun i ws=>∃ k:Nat,n≤k∧k≤v∧i=.int .i64 k∧Hid (∀ i,v-k≤i→i<v-n→M.testBit i=false)∧Hid (Below wa.heap.size wa ws)) (fun i _=>v-(intOf i).toNat)
     case atStart=>exact ⟨n,Ht _,hn,rfl,aa (fun i a b=>absurd b (by omega)),hbz⟩
     case round=>
      clear hbz
      obtain ⟨k,hnk,hk,rfl,hzs,hbz⟩:=hrel
      have kk:=ae hbz.out
      have hlx:=Hr hl0 hbz.out.size
      have p0:=(kk.1 _ 0 hl0).trans q0
      have p1:=(kk.1 _ 1 hl0).trans q1
      have p2:=(kk.1 _ 2 hl0).trans q2
      have p3:=(kk.1 _ 3 hl0).trans q3
      have hzz:=hbz.out.size
      clear kk
      by_cases hkv:k<v
      ·have hkz:(k:Int)<(v:Int):=by omega
       have hM:=hB.out (v-1-k) (by omega)
       rw [show (((v-1-k:Nat)):Int)=(v:Int)-1-k by omega] at hM
       have hbit:=(hnb.out (v-1-k)).symm
       have hw2:IntKind.i64.wrap ((v:Int)-1-k)=(v:Int)-1-k:=by rw [IntKind.wrap_i64];omega
       generalize mb (v-1-k)=b at hM hbit
       replace hM:=aa hM
       cases b with
       |true=>
        have hr2:=aa (show RES=(0,false) by rw [hres.out,if_neg (by rw [Bool.not_eq_true];exact jl (k:=v-1-k) (by omega) (by simp [hbit]))])
        clear hbit hzs hres
        go_wp2_with (first|(go_at_call 56;refine (hP.out _).mono ?_;rintro e w1 ⟨rfl,hb1⟩)|(go_at_call 111;(with_reducible refine (hM.out _).mono ?_);rintro e w' ⟨rfl,hb'⟩;have hs':=hb'.size;replace p0:=(hb'.cell (p:=⟨w.heap.size,0,none⟩) hlx).trans p0;replace p1:=(hb'.cell (p:=⟨w.heap.size,1,none⟩) hlx).trans p1;replace p2:=(hb'.cell (p:=⟨w.heap.size,2,none⟩) hlx).trans p2;replace p3:=(hb'.cell (p:=⟨w.heap.size,3,none⟩) hlx).trans p3;replace hlx:=Hr hlx hs';replace hbz:=aa (hbz.out.trans (hb'.mono hzz));replace hzz:=Hw hzz hs';clear hb' hs'))
        refine bodyPost_ret (v:=.tuple #[.int .i64 0,.bool false]) (by simp [results,results57,go_sem]) rfl ⟨by rw [hr2.out],hfin.out _ hbz.out⟩
       |false=>
        have hz2:=aa (show ∀ i,v-(k+1)≤i→i<v-n→M.testBit i=false from fun i a b=>by
         by_cases h:i=v-1-k
         ·rw [h];exact hbit
         ·exact hzs.out i (by omega) b)
        clear hbit hzs
        go_wp2_with (first|(go_at_call 56;refine (hP.out _).mono ?_;rintro e w1 ⟨rfl,hb1⟩)|(go_at_call 111;(with_reducible refine (hM.out _).mono ?_);rintro e w' ⟨rfl,hb'⟩;have hs':=hb'.size;replace p0:=(hb'.cell (p:=⟨w.heap.size,0,none⟩) hlx).trans p0;replace p1:=(hb'.cell (p:=⟨w.heap.size,1,none⟩) hlx).trans p1;replace p2:=(hb'.cell (p:=⟨w.heap.size,2,none⟩) hlx).trans p2;replace p3:=(hb'.cell (p:=⟨w.heap.size,3,none⟩) hlx).trans p3;replace hlx:=Hr hlx hs';replace hbz:=aa (hbz.out.trans (hb'.mono hzz));replace hzz:=Hw hzz hs';clear hb' hs'))
        go_roundw
        case rel=>exact ⟨k+1,by omega,by omega,by go_num,hz2,hbz⟩
        case measure=>simp [intOf];omega
      ·have hkz:¬(k:Int)<(v:Int):=by omega
       have hr2:=aa (show RES=((n:Int),true) by rw [hres.out,if_pos];rw [HT];intro i hi;rw [H5] at hi;simp [hzs.out i (by omega) hi])
       clear hzs hres
       go_wp2
       refine bodyPost_ret (v:=.tuple #[.int .i64 (n:Int),.bool true]) (by simp [results,results57,go_sem]) rfl ⟨by rw [hr2.out],hfin.out _ hbz.out⟩
   ·have hnz:¬(n:Int)<(v:Int):=by omega
    have hres:=aa (hof.out n (by omega) hones.out (fun h=>absurd h hnv))
    clear hones hof
    go_wp2_with (first|(go_at_call 56;refine (hP.out _).mono ?_;rintro e w1 ⟨rfl,hb1⟩)|(go_at_call 111;(with_reducible refine (hM.out _).mono ?_);rintro e w' ⟨rfl,hb'⟩;have hs':=hb'.size;replace p0:=(hb'.cell (p:=⟨w.heap.size,0,none⟩) hlx).trans p0;replace p1:=(hb'.cell (p:=⟨w.heap.size,1,none⟩) hlx).trans p1;replace p2:=(hb'.cell (p:=⟨w.heap.size,2,none⟩) hlx).trans p2;replace p3:=(hb'.cell (p:=⟨w.heap.size,3,none⟩) hlx).trans p3;replace hlx:=Hr hlx hs';replace hbz:=aa (hbz.out.trans (hb'.mono hzz));replace hzz:=Hw hzz hs';clear hb' hs'))
    go_loopw [7] (fun i ws=>∃ k:Nat,n≤k∧k≤v∧i=.int .i64 k∧Hid (∀ i,v-k≤i→i<v-n→M.testBit i=false)∧Hid (Below wa.heap.size wa ws)) (fun i _=>v-(intOf i).toNat)
    case atStart=>exact ⟨n,Ht _,hn,rfl,aa (fun i a b=>absurd b (by omega)),hbz⟩
    case round=>
     clear hbz
     obtain ⟨k,hnk,hk,rfl,hzs,hbz⟩:=hrel
     have kk:=ae hbz.out
     have hlx:=Hr hl0 hbz.out.size
     have p0:=(kk.1 _ 0 hl0).trans q0
     have p1:=(kk.1 _ 1 hl0).trans q1
     have p2:=(kk.1 _ 2 hl0).trans q2
     have p3:=(kk.1 _ 3 hl0).trans q3
     have hzz:=hbz.out.size
     clear kk
     by_cases hkv:k<v
     ·exact absurd hkv (by omega)
     ·have hkz:¬(k:Int)<(v:Int):=by omega
      have hr2:=aa (show RES=((n:Int),true) by rw [hres.out,if_pos];rw [HT];intro i hi;rw [H5] at hi;simp [hzs.out i (by omega) hi])
      clear hzs hres
      go_wp2
      refine bodyPost_ret (v:=.tuple #[.int .i64 (n:Int),.bool true]) (by simp [results,results57,go_sem]) rfl ⟨by rw [hr2.out],hfin.out _ hbz.out⟩
end Go.Proofs.YtijcdfdbkffiaaaGreatDoor

import Derived.Test.YtiebolhmdhdagaaGreatDoorEwp20
set_option linter.all false
set_option maxHeartbeats 8000000
set_option maxRecDepth 100000
open Go.Proofs.Tryz
namespace Go.Proofs.YtiebolhmdhdagaaGreatDoor
open _root_.Nat renaming lt_of_lt_of_le→He, le_refl→Hh, le_trans→Hj, zero_le→Hm
open _root_.Go.RowKit.Below renaming refl→Hf
open _root_.Bool renaming false_and→Hg, true_and→Hk, and_eq_true→Hl, eq_iff_iff→Hr, false_eq_true→Hy
open _root_.Go.Calls renaming regrown_of→Hi
open _root_.Go.Sort renaming grow→Ht
open _root_.List renaming take_length→HZ
open Go.RowKit
theorem jN (A1 A2 A3 A4 A5 A6 A7 A8 A9 A10 A11 A12:Option Addr) (p:Lp) (c1 c2 c3 c4 c5 c6 c7 c8 c9 c10 c11 c12:Nat) (w:World) (h:cJ w w.heap.size A1 A2 A3 A4 A5 A6 A7 A8 A9 A10 A11 A12 p):
  Calls prog 18 #[.agg #[.slice A1 p.heads.length c1,.slice A2 p.metas.length c2,.slice A3 p.steps.length c3,.slice A4 p.acts.length c4,.slice A5 p.tabs.length c5,.slice A6 p.control.length c6,.slice A7 p.emit.length c7,.slice A8 p.nh.length c8,.slice A9 p.nf.length c9,.slice A10 p.nm.length c10,.slice A11 p.na.length c11,.slice A12 p.nt.length c12]] w fun e w'=>e=.returned (.bool (bW p))∧Below w.heap.size w w':=by
 have l1:=h.heads.len
 have l3:=h.steps.len
 have l4:=h.acts.len
 have l5:=h.tabs.len
 obtain ⟨wz,hwz,hsz,hbz,hcz,-⟩:=ak w #[.slice A1 p.heads.length c1,.slice A2 p.metas.length c2,.slice A3 p.steps.length c3,.slice A4 p.acts.length c4,.slice A5 p.tabs.length c5,.slice A6 p.control.length c6,.slice A7 p.emit.length c7,.slice A8 p.nh.length c8,.slice A9 p.nf.length c9,.slice A10 p.nm.length c10,.slice A11 p.na.length c11,.slice A12 p.nt.length c12] 33
 have lx:w.heap.size<wz.heap.size:=by omega
 have hP:∀ W,Below wz.heap.size wz W→cJ W W.heap.size A1 A2 A3 A4 A5 A6 A7 A8 A9 A10 A11 A12 p:=fun W hW=>((h.below hbz).below (hW.mono hbz.size)).more (Hj hbz.size hW.size)
 have hv:=aa (show bW p=(decide (p.heads.length≤8)&&decide (1≤p.steps.length)&&decide (p.steps.length≤16)&&decide (p.acts.length≤16)&&decide (p.tabs.length≤8)&&
  p.heads.all b8&&eh p.metas 16&&gP p&&oG p.emit p.heads.length&&am (fun i=>aK (xk p i) p.acts i) p.acts.length&&p.steps.all (eI p)&& !up p.steps&&p.tabs.all (iO p)&&fq p (-1) p.control) from rfl)
 have hH:=aa (fun W hW=>yE A1 c1 p.heads W (hP W hW).heads)
 have hW:=aa (fun W hW=>fF A2 c2 p.metas 16 W (hP W hW).metas)
 have hN:=aa (fun W hW=>qX A1 A2 A3 A4 A5 A6 A7 A8 A9 A10 A11 A12 p c1 c2 c3 c4 c5 c6 c7 c8 c9 c10 c11 c12 W (hP W hW))
 have hD:=aa (fun W hW=>jM A7 c7 p.emit p.heads.length W (hP W hW).emit)
 have hS:=aa (fun W hW lx Y=>yH A1 A2 A3 A4 A5 A6 A7 A8 A9 A10 A11 A12 p c1 c2 c3 c4 c5 c6 c7 c8 c9 c10 c11 c12 w.heap.size W (hP W hW) lx Y)
 have hT:=aa (fun W hW lx Y=>BD A1 A2 A3 A4 A5 A6 A7 A8 A9 A10 A11 A12 p c1 c2 c3 c4 c5 c6 c7 c8 c9 c10 c11 c12 w.heap.size W (hP W hW) lx Y)
 have hI:=aa (fun W hW=>jG A1 A2 A3 A4 A5 A6 A7 A8 A9 A10 A11 A12 p c1 c2 c3 c4 c5 c6 c7 c8 c9 c10 c11 c12 (-1) p.control A6 c6 W (hP W hW) (hP W hW).control)
 have hC:=aa (fun W hW hg hb=>uQ p.steps A3 c3 W (hP W hW).steps hg hb)
 have hIa:=aa (fun act l A c W hW hL=>jG A1 A2 A3 A4 A5 A6 A7 A8 A9 A10 A11 A12 p c1 c2 c3 c4 c5 c6 c7 c8 c9 c10 c11 c12 act l A c W (hP W hW) hL)
 have hP':=aa hP
 have Y:=aa hcz
 have hgo:=aa (fun W (hW:Below wz.heap.size wz W)=>hbz.trans (hW.mono hbz.size))
 obtain ⟨y0,y1,y2,y3,y4,y5,y6,y7,y8,y9,y10,y11⟩:=aC hcz
 replace hsz:=aa hsz
 clear hcz hbz h hP
 go_enter func18,ntmps18
 go_upto_region 1 with fail
 generalize hmn:(decide (p.heads.length≤8)&&decide (1≤p.steps.length)&&decide (p.steps.length≤16)&&decide (p.acts.length≤16)&&decide (p.tabs.length≤8))=mn at hv
 go_cut [3] (fun u wx=>u=.bool mn∧wx=wz)
 case first=>
  go_wp2
  all_goals go_meet
  all_goals refine ⟨congrArg Value.bool ?_,rfl⟩
  all_goals clear hv hH hW hN hD hS hT hI hC hP' Y hgo y0 y1 y2 y3 y4 y5 y6 y7 y8 y9 y10 y11
  all_goals (rw [←hmn,Hr];simp only [Hl,decide_eq_true_eq,Hy,eq_self_iff_true,true_iff,false_iff];try omega)
 case rest=>
  obtain ⟨rfl,hcx⟩:=hcut
  replace hcx:=hcx.symm
  subst hcx
  clear hmn
  generalize p.heads.all b8=H at hH hv
  generalize eh p.metas 16=W at hW hv
  generalize gP p=N at hN hv
  generalize oG p.emit p.heads.length=D at hD hv
  cases mn with
  |false=>
   rw [Hg,Hg,Hg,Hg,Hg,Hg,Hg,Hg,Hg] at hv
   go_wp2
   go_ret
   exact ⟨ad hv.out.symm,hgo.out _ (Hf _ _)⟩
  |true=>
   rw [Hk] at hv
   cases H with
   |false=>
    rw [Hg,Hg,Hg,Hg,Hg,Hg,Hg,Hg] at hv
    go_wp2_with (go_at_call 42;refine (hH.out _ (Hf _ _)).mono ?_;rintro e w3 ⟨rfl,hb3⟩;obtain ⟨t0,t1,t2,t3,t4,t5,t6,t7,t8,t9,t10,t11⟩:=aC fun i=>(hb3.cell (p:=⟨w.heap.size,i,none⟩) lx).trans (Y.out i);have tl:=He lx hb3.size)
    go_ret
    exact ⟨ad hv.out.symm,hgo.out _ hb3⟩
   |true=>
    rw [Hk] at hv
    cases W with
    |false=>
     rw [Hg,Hg,Hg,Hg,Hg,Hg,Hg] at hv
     go_wp2_with (first|(go_at_call 42;refine (hH.out _ (Hf _ _)).mono ?_;rintro e w3 ⟨rfl,hb3⟩;obtain ⟨t0,t1,t2,t3,t4,t5,t6,t7,t8,t9,t10,t11⟩:=aC fun i=>(hb3.cell (p:=⟨w.heap.size,i,none⟩) lx).trans (Y.out i);have tl:=He lx hb3.size)|(go_at_call 45;refine (hW.out _ hb3).mono ?_;rintro e w4 ⟨rfl,hb4'⟩;have hb4:=hb3.trans (hb4'.mono hb3.size);obtain ⟨u0,u1,u2,u3,u4,u5,u6,u7,u8,u9,u10,u11⟩:=aC fun i=>(hb4.cell (p:=⟨w.heap.size,i,none⟩) lx).trans (Y.out i);have ul:=He lx hb4.size))
     go_ret
     exact ⟨ad hv.out.symm,hgo.out _ hb4⟩
    |true=>
     rw [Hk] at hv
     cases N with
     |false=>
      rw [Hg,Hg,Hg,Hg,Hg,Hg] at hv
      go_wp2_with (first|(go_at_call 42;refine (hH.out _ (Hf _ _)).mono ?_;rintro e w3 ⟨rfl,hb3⟩;obtain ⟨t0,t1,t2,t3,t4,t5,t6,t7,t8,t9,t10,t11⟩:=aC fun i=>(hb3.cell (p:=⟨w.heap.size,i,none⟩) lx).trans (Y.out i);have tl:=He lx hb3.size)|(go_at_call 45;refine (hW.out _ hb3).mono ?_;rintro e w4 ⟨rfl,hb4'⟩;have hb4:=hb3.trans (hb4'.mono hb3.size);obtain ⟨u0,u1,u2,u3,u4,u5,u6,u7,u8,u9,u10,u11⟩:=aC fun i=>(hb4.cell (p:=⟨w.heap.size,i,none⟩) lx).trans (Y.out i);have ul:=He lx hb4.size)|(go_at_call 46;refine (hN.out _ hb4).mono ?_;rintro e w5 ⟨rfl,hb5'⟩;have hb5:=hb4.trans (hb5'.mono hb4.size);obtain ⟨v0,v1,v2,v3,v4,v5,v6,v7,v8,v9,v10,v11⟩:=aC fun i=>(hb5.cell (p:=⟨w.heap.size,i,none⟩) lx).trans (Y.out i);have vl:=He lx hb5.size))
      go_ret
      exact ⟨ad hv.out.symm,hgo.out _ hb5⟩
     |true=>
      rw [Hk] at hv
      cases D with
      |false=>
       rw [Hg,Hg,Hg,Hg,Hg] at hv
       go_wp2_with (first|(go_at_call 42;refine (hH.out _ (Hf _ _)).mono ?_;rintro e w3 ⟨rfl,hb3⟩;obtain ⟨t0,t1,t2,t3,t4,t5,t6,t7,t8,t9,t10,t11⟩:=aC fun i=>(hb3.cell (p:=⟨w.heap.size,i,none⟩) lx).trans (Y.out i);have tl:=He lx hb3.size)|(go_at_call 45;refine (hW.out _ hb3).mono ?_;rintro e w4 ⟨rfl,hb4'⟩;have hb4:=hb3.trans (hb4'.mono hb3.size);obtain ⟨u0,u1,u2,u3,u4,u5,u6,u7,u8,u9,u10,u11⟩:=aC fun i=>(hb4.cell (p:=⟨w.heap.size,i,none⟩) lx).trans (Y.out i);have ul:=He lx hb4.size)|(go_at_call 46;refine (hN.out _ hb4).mono ?_;rintro e w5 ⟨rfl,hb5'⟩;have hb5:=hb4.trans (hb5'.mono hb4.size);obtain ⟨v0,v1,v2,v3,v4,v5,v6,v7,v8,v9,v10,v11⟩:=aC fun i=>(hb5.cell (p:=⟨w.heap.size,i,none⟩) lx).trans (Y.out i);have vl:=He lx hb5.size)|(go_at_call 47;refine (hD.out _ hb5).mono ?_;rintro e w' ⟨rfl,rfl⟩))
       go_ret
       exact ⟨ad hv.out.symm,hgo.out _ hb5⟩
      |true=>
       rw [Hk] at hv
       go_upto_region 4 with (first|(go_at_call 42;refine (hH.out _ (Hf _ _)).mono ?_;rintro e w3 ⟨rfl,hb3⟩;obtain ⟨t0,t1,t2,t3,t4,t5,t6,t7,t8,t9,t10,t11⟩:=aC fun i=>(hb3.cell (p:=⟨w.heap.size,i,none⟩) lx).trans (Y.out i);have tl:=He lx hb3.size)|(go_at_call 45;refine (hW.out _ hb3).mono ?_;rintro e w4 ⟨rfl,hb4'⟩;have hb4:=hb3.trans (hb4'.mono hb3.size);obtain ⟨u0,u1,u2,u3,u4,u5,u6,u7,u8,u9,u10,u11⟩:=aC fun i=>(hb4.cell (p:=⟨w.heap.size,i,none⟩) lx).trans (Y.out i);have ul:=He lx hb4.size)|(go_at_call 46;refine (hN.out _ hb4).mono ?_;rintro e w5 ⟨rfl,hb5'⟩;have hb5:=hb4.trans (hb5'.mono hb4.size);obtain ⟨v0,v1,v2,v3,v4,v5,v6,v7,v8,v9,v10,v11⟩:=aC fun i=>(hb5.cell (p:=⟨w.heap.size,i,none⟩) lx).trans (Y.out i);have vl:=He lx hb5.size)|(go_at_call 47;refine (hD.out _ hb5).mono ?_;rintro e w' ⟨rfl,rfl⟩))
       generalize hF:(fun i=>aK (xk p i) p.acts i)=F at hv
       generalize hSt:p.steps.all (eI p)=St at hS hv
       generalize up p.steps=Cy at hC hv
       generalize p.tabs.all (iO p)=Tb at hT hv
       generalize fq p (-1) p.control=In at hI hv
       clear y0 y1 y2 y3 y4 y5 y6 y7 y8 y9 y10 y11 hH hW hN hD
       replace hb5:=aa hb5
       replace hF:=aa hF
       replace hSt:=aa hSt
       go_wp2
       go_loopw [4,5,65] (fun _ _ i wr=>∃ k:Nat,k≤p.acts.length∧i=.int .i64 k∧Hid (am F k=true)∧Hid (Below wz.heap.size wz wr)) (fun _ _ i _=>p.acts.length-(intOf i).toNat)
       case atStart=>exact ⟨0,Hm _,rfl,aa rfl,hb5⟩
       case round=>
        obtain ⟨k,hk,rfl,hcn,hG⟩:=hrel
        have hzr:=hG.out.size
        have lr:=He lx hzr
        clear v0 v1 v2 v3 v4 v5 v6 v7 v8 v9 v10 v11
        by_cases hlt:k<p.acts.length
        ·have hkz:(k:Int)<(p.acts.length:Int):=by omega
         obtain ⟨b,o,A',B',ca,cb,hAe,hb,n0,n1,hE1,hE2⟩:=(hP'.out wr hG.out).acts.act hlt
         subst hAe
         have hFk:F k=(eh p.acts[k].params 8&&fq p k p.acts[k].body):=by rw [←hF.out];simp only [ag _ hlt];rfl
         have hNx:=aa (fun (g:F k=true)=>show am F (k+1)=true from by rw [am,hcn.out,g];rfl)
         have hlo:=aa (fun (g:F k=false)=>show am F p.acts.length=false from aN hlt g)
         generalize p.acts[k]=x at n0 n1 hE1 hE2 hFk
         obtain ⟨ps,body⟩:=x
         simp only at n0 n1 hE1 hE2 hFk
         have lps:=hE1.len
         have lbd:=hE2.len
         obtain ⟨wn,hwn,hsn,hbn,hcl,-⟩:=ak wr #[.slice A' ps.length ca,.slice B' body.length cb] 106
         have m0:wn.cell? ⟨wr.heap.size,0,none⟩=some (.slice A' ps.length ca):=hcl 0
         have m1:wn.cell? ⟨wr.heap.size,1,none⟩=some (.slice B' body.length cb):=hcl 1
         have hGn:Below wz.heap.size wz wn:=hG.out.trans (hbn.mono hzr)
         have lw1:w.heap.size<wn.heap.size:=He lr hbn.size
         have lw2:wr.heap.size<wn.heap.size:=by omega
         obtain ⟨y0,y1,y2,y3,y4,y5,y6,y7,y8,y9,y10,y11⟩:=aC fun i=>(hGn.cell (p:=⟨w.heap.size,i,none⟩) lx).trans (Y.out i)
         have hW8:=fF A' ca ps 8 wn ((hE1.below ai hbn).more ai hbn.size)
         have hE2n:=(hE2.below bG hbn).more bG hbn.size
         have hI8:=fun W (hW:Below wn.heap.size wn W)=>hIa.out k body B' cb W (hGn.trans (hW.mono hGn.size)) ((hE2n.below bG hW).more bG hW.size)
         generalize eh ps 8=W1 at hW8 hFk
         generalize fq p k body=I1 at hI8 hFk
         replace hW8:=aa hW8
         replace hI8:=aa hI8
         replace hGn:=aa hGn
         replace hsn:=aa hsn
         clear hcl hbn hE1 hE2 hE2n
         cases W1 with
         |false=>
          rw [Hg] at hFk
          rw [hlo.out hFk,Hg,Hg,Hg,Hg] at hv
          replace hFk:=aa hFk
          go_wp2_with (go_at_call 45;refine hW8.out.mono ?_;rintro e w6 ⟨rfl,hb6⟩)
          go_ret
          exact ⟨ad hv.out.symm,hgo.out _ (hGn.out.trans (hb6.mono hGn.out.size))⟩
         |true=>
          rw [Hk] at hFk
          cases I1 with
          |false=>
           rw [hlo.out hFk,Hg,Hg,Hg,Hg] at hv
           replace hFk:=aa hFk
           go_wp2_with (first|(go_at_call 45;refine hW8.out.mono ?_;rintro e w6 ⟨rfl,hb6⟩;have q1:=(hb6.cell (p:=⟨wr.heap.size,1,none⟩) lw2).trans m1;have ll6:=He lw2 hb6.size;have lm6:=He lw1 hb6.size;have hB6:=hGn.out.trans (hb6.mono hGn.out.size);obtain ⟨t0,t1,t2,t3,t4,t5,t6,t7,t8,t9,t10,t11⟩:=aC fun i=>(hB6.cell (p:=⟨w.heap.size,i,none⟩) lx).trans (Y.out i))|(go_at_call 48;refine (hI8.out _ hb6).mono ?_;rintro e w7 ⟨rfl,hb7'⟩;have hb7:=hb6.trans (hb7'.mono hb6.size)))
           go_ret
           exact ⟨ad hv.out.symm,hgo.out _ (hGn.out.trans (hb7.mono hGn.out.size))⟩
          |true=>
           replace hNx:=aa (hNx.out hFk)
           replace hFk:=aa hFk
           go_wp2_with (first|(go_at_call 45;refine hW8.out.mono ?_;rintro e w6 ⟨rfl,hb6⟩;have q1:=(hb6.cell (p:=⟨wr.heap.size,1,none⟩) lw2).trans m1;have ll6:=He lw2 hb6.size;have lm6:=He lw1 hb6.size;have hB6:=hGn.out.trans (hb6.mono hGn.out.size);obtain ⟨t0,t1,t2,t3,t4,t5,t6,t7,t8,t9,t10,t11⟩:=aC fun i=>(hB6.cell (p:=⟨w.heap.size,i,none⟩) lx).trans (Y.out i))|(go_at_call 48;refine (hI8.out _ hb6).mono ?_;rintro e w7 ⟨rfl,hb7'⟩;have hb7:=hb6.trans (hb7'.mono hb6.size)))
           go_roundw
           case rel=>exact ⟨k+1,by omega,by go_num,hNx,aa (hGn.out.trans (hb7.mono hGn.out.size))⟩
           case measure=>simp [intOf];omega
        ·have hke:k=p.acts.length:=by omega
         rw [hke] at hcn
         rw [hcn.out,Hk] at hv
         obtain ⟨y0,y1,y2,y3,y4,y5,y6,y7,y8,y9,y10,y11⟩:=aC fun i=>(hG.out.cell (p:=⟨w.heap.size,i,none⟩) lx).trans (Y.out i)
         cases St with
         |false=>
          rw [Hg,Hg,Hg] at hv
          go_wp2_with (go_at_call 49;refine (hS.out _ hG.out (He lx hG.out.size) (fun i=>(hG.out.cell (p:=⟨w.heap.size,i,none⟩) lx).trans (Y.out i))).mono ?_;rintro e w6 ⟨rfl,hb6'⟩;have hb6:=hG.out.trans (hb6'.mono hG.out.size);obtain ⟨t0,t1,t2,t3,t4,t5,t6,t7,t8,t9,t10,t11⟩:=aC fun i=>(hb6.cell (p:=⟨w.heap.size,i,none⟩) lx).trans (Y.out i);have ll6:=He lx hb6.size)
          go_ret
          exact ⟨ad hv.out.symm,hgo.out _ hb6⟩
         |true=>
          rw [Hk] at hv
          replace hC:=aa (fun W hW=>hC.out W hW (rJ p hSt.out) (Dm hSt.out))
          cases Cy with
          |true=>
           rw [Bool.not_true,Hg,Hg] at hv
           go_wp2_with (first|(go_at_call 49;refine (hS.out _ hG.out (He lx hG.out.size) (fun i=>(hG.out.cell (p:=⟨w.heap.size,i,none⟩) lx).trans (Y.out i))).mono ?_;rintro e w6 ⟨rfl,hb6'⟩;have hb6:=hG.out.trans (hb6'.mono hG.out.size);obtain ⟨t0,t1,t2,t3,t4,t5,t6,t7,t8,t9,t10,t11⟩:=aC fun i=>(hb6.cell (p:=⟨w.heap.size,i,none⟩) lx).trans (Y.out i);have ll6:=He lx hb6.size)|(go_at_call 52;refine (hC.out _ hb6).mono ?_;rintro e w7 ⟨rfl,hb7'⟩;have hb7:=hb6.trans (hb7'.mono hb6.size);obtain ⟨u0,u1,u2,u3,u4,u5,u6,u7,u8,u9,u10,u11⟩:=aC fun i=>(hb7.cell (p:=⟨w.heap.size,i,none⟩) lx).trans (Y.out i);have ll7:=He lx hb7.size))
           go_ret
           exact ⟨ad hv.out.symm,hgo.out _ hb7⟩
          |false=>
           rw [Bool.not_false,Hk] at hv
           cases Tb with
           |false=>
            rw [Hg] at hv
            go_wp2_with (first|(go_at_call 49;refine (hS.out _ hG.out (He lx hG.out.size) (fun i=>(hG.out.cell (p:=⟨w.heap.size,i,none⟩) lx).trans (Y.out i))).mono ?_;rintro e w6 ⟨rfl,hb6'⟩;have hb6:=hG.out.trans (hb6'.mono hG.out.size);obtain ⟨t0,t1,t2,t3,t4,t5,t6,t7,t8,t9,t10,t11⟩:=aC fun i=>(hb6.cell (p:=⟨w.heap.size,i,none⟩) lx).trans (Y.out i);have ll6:=He lx hb6.size)|(go_at_call 52;refine (hC.out _ hb6).mono ?_;rintro e w7 ⟨rfl,hb7'⟩;have hb7:=hb6.trans (hb7'.mono hb6.size);obtain ⟨u0,u1,u2,u3,u4,u5,u6,u7,u8,u9,u10,u11⟩:=aC fun i=>(hb7.cell (p:=⟨w.heap.size,i,none⟩) lx).trans (Y.out i);have ll7:=He lx hb7.size)|(go_at_call 53;refine (hT.out _ hb7 (He lx hb7.size) (fun i=>(hb7.cell (p:=⟨w.heap.size,i,none⟩) lx).trans (Y.out i))).mono ?_;rintro e w8 ⟨rfl,hb8'⟩;have hb8:=hb7.trans (hb8'.mono hb7.size);obtain ⟨v0,v1,v2,v3,v4,v5,v6,v7,v8,v9,v10,v11⟩:=aC fun i=>(hb8.cell (p:=⟨w.heap.size,i,none⟩) lx).trans (Y.out i);have ll8:=He lx hb8.size))
            go_ret
            exact ⟨ad hv.out.symm,hgo.out _ hb8⟩
           |true=>
            rw [Hk] at hv
            go_wp2_with (first|(go_at_call 49;refine (hS.out _ hG.out (He lx hG.out.size) (fun i=>(hG.out.cell (p:=⟨w.heap.size,i,none⟩) lx).trans (Y.out i))).mono ?_;rintro e w6 ⟨rfl,hb6'⟩;have hb6:=hG.out.trans (hb6'.mono hG.out.size);obtain ⟨t0,t1,t2,t3,t4,t5,t6,t7,t8,t9,t10,t11⟩:=aC fun i=>(hb6.cell (p:=⟨w.heap.size,i,none⟩) lx).trans (Y.out i);have ll6:=He lx hb6.size)|(go_at_call 52;refine (hC.out _ hb6).mono ?_;rintro e w7 ⟨rfl,hb7'⟩;have hb7:=hb6.trans (hb7'.mono hb6.size);obtain ⟨u0,u1,u2,u3,u4,u5,u6,u7,u8,u9,u10,u11⟩:=aC fun i=>(hb7.cell (p:=⟨w.heap.size,i,none⟩) lx).trans (Y.out i);have ll7:=He lx hb7.size)|(go_at_call 53;refine (hT.out _ hb7 (He lx hb7.size) (fun i=>(hb7.cell (p:=⟨w.heap.size,i,none⟩) lx).trans (Y.out i))).mono ?_;rintro e w8 ⟨rfl,hb8'⟩;have hb8:=hb7.trans (hb8'.mono hb7.size);obtain ⟨v0,v1,v2,v3,v4,v5,v6,v7,v8,v9,v10,v11⟩:=aC fun i=>(hb8.cell (p:=⟨w.heap.size,i,none⟩) lx).trans (Y.out i);have ll8:=He lx hb8.size)|(go_at_call 48;refine (hI.out _ hb8).mono ?_;rintro e w9 ⟨rfl,hb9'⟩;have hb9:=hb8.trans (hb9'.mono hb8.size)))
            go_ret
            exact ⟨ad hv.out.symm,hgo.out _ hb9⟩
theorem uW (A1 A2 A3 A4 A5 A6 A7 A8 A9 A10 A11 A12:Option Addr) (p:Lp) (c1 c2 c3 c4 c5 c6 c7 c8 c9 c10 c11 c12:Nat) (w:World) (h:cJ w w.heap.size A1 A2 A3 A4 A5 A6 A7 A8 A9 A10 A11 A12 p):
  Calls prog 61 #[.agg #[.slice A1 p.heads.length c1,.slice A2 p.metas.length c2,.slice A3 p.steps.length c3,.slice A4 p.acts.length c4,.slice A5 p.tabs.length c5,.slice A6 p.control.length c6,.slice A7 p.emit.length c7,.slice A8 p.nh.length c8,.slice A9 p.nf.length c9,.slice A10 p.nm.length c10,.slice A11 p.na.length c11,.slice A12 p.nt.length c12]] w fun e w'=>e=.returned (.bool (iP p))∧Below w.heap.size w w':=by
 have l1:=h.heads.len
 have l8:=h.nh.len
 have l9:=h.nf.len
 obtain ⟨wz,hwz,hsz,hbz,hcz,-⟩:=ak w #[.slice A1 p.heads.length c1,.slice A2 p.metas.length c2,.slice A3 p.steps.length c3,.slice A4 p.acts.length c4,.slice A5 p.tabs.length c5,.slice A6 p.control.length c6,.slice A7 p.emit.length c7,.slice A8 p.nh.length c8,.slice A9 p.nf.length c9,.slice A10 p.nm.length c10,.slice A11 p.na.length c11,.slice A12 p.nt.length c12] 33
 have lx:w.heap.size<wz.heap.size:=by omega
 have hP:=(h.below hbz).more hbz.size
 have hHd:=aa hP.heads
 have hNf:=aa hP.nf
 obtain ⟨y0,-,-,-,-,-,-,y7,y8,-,-,-⟩:=aC hcz
 have hgo:=aa hbz
 have hv:=aa (show iP p=(decide (p.heads.length≤8)&&decide (p.nh.length=p.heads.length)&&decide (p.nf.length=p.heads.length)&&am (fun i=>aK b8 p.heads i&&aK (fun l=>aK (fun n=>decide (n.length=l.length)) p.nf i) p.heads i) p.heads.length) from rfl)
 replace hsz:=aa hsz
 clear hcz hbz h hP
 generalize hF:(fun i=>aK b8 p.heads i&&aK (fun l=>aK (fun (n:List ByteArray)=>decide (n.length=l.length)) p.nf i) p.heads i)=F at hv
 replace hF:=aa hF
 go_enter func61,ntmps61
 by_cases a1:p.heads.length≤8
 focus
  have a1z:¬(8:Int)<(p.heads.length:Int):=by omega
  rw [decide_eq_true a1,Hk] at hv
  by_cases a2:p.nh.length=p.heads.length
  focus
   have a2z:((p.nh.length:Int) !=(p.heads.length:Int))=false:=by rw [a2];exact bne_self_eq_false _
   rw [decide_eq_true a2,Hk] at hv
   replace a2:=aa a2
   by_cases a3:p.nf.length=p.heads.length
   focus
    have a3z:((p.nf.length:Int) !=(p.heads.length:Int))=false:=by rw [a3];exact bne_self_eq_false _
    rw [decide_eq_true a3,Hk] at hv
    replace a3:=aa a3
    go_wp2
    go_loop [3,4,5,6] (fun i _ _ _=>∃ k:Nat,k≤p.heads.length∧i=.int .i64 k∧Hid (am F k=true)) (fun i _ _ _=>p.heads.length-(intOf i).toNat)
    case atStart=>exact ⟨0,Hm _,rfl,aa rfl⟩
    case round=>
     obtain ⟨k,hk,rfl,hcn⟩:=hrel
     by_cases hlt:k<p.heads.length
     ·have hkz:(k:Int)<(p.heads.length:Int):=by omega
      have hlt9:k<p.nf.length:=by rw [a3.out];exact hlt
      have hkz9:(k:Int)<(p.nf.length:Int):=by omega
      obtain ⟨b,o,A',c',hA1,hb,hcell,hE⟩:=hHd.out.ints hlt
      obtain ⟨b9,o9,A9',c9',hA9,hb9,hcell9,hl9⟩:=hNf.out.strs hlt9
      subst hA1
      subst hA9
      have hFk:F k=(b8 p.heads[k]&&decide (p.nf[k].length=p.heads[k].length)):=by rw [←hF.out];simp only [ag _ hlt,ag _ hlt9]
      have hNx:=aa (fun (g:F k=true)=>show am F (k+1)=true from by rw [am,hcn.out,g];rfl)
      have hlo:=aa (fun (g:F k=false)=>show am F p.heads.length=false from aN hlt g)
      generalize p.heads[k]=xs at hcell hE hFk
      generalize p.nf[k]=ns at hcell9 hl9 hFk
      replace hFk:=aa hFk
      have hls:=hE.len
      have hC:=aa (ja A' c' xs wz hE)
      have hvf:=aa (fun (g:F k=false)=>hv.out.trans (hlo.out g))
      go_wp2
      go_loop [5,6] (fun s i=>∃ m:Nat,m≤xs.length∧i=.int .i64 m∧∃ n,s=.int .i64 n∧Hid (jo 0 (xs.take m)=n)) (fun _ i=>xs.length-(intOf i).toNat)
      case atStart=>exact ⟨0,Hm _,rfl,0,rfl,aa rfl⟩
      case round=>
       obtain ⟨m,hm,rfl,n,rfl,hn⟩:=hrel
       by_cases hlt2:m<xs.length
       ·obtain ⟨b',o',hA2,hb',hcell'⟩:=hE.int hlt2
        subst hA2
        have hmz:(m:Int)<(xs.length:Int):=by omega
        have hs:=aa (show jo 0 (xs.take (m+1))=wrap64 (n+xs[m]) from by rw [pT hlt2,hn.out])
        go_wp2
        go_round
        case rel=>exact ⟨m+1,by omega,by go_num,_,rfl,hs⟩
        case measure=>simp [intOf];omega
       ·have hke:m=xs.length:=by omega
        rw [hke,HZ] at hn
        by_cases c1:1≤xs.length
        ·have c1z:¬(xs.length:Int)<1:=by omega
         by_cases c2:xs.length≤16
         ·have c2z:¬(16:Int)<(xs.length:Int):=by omega
          cases hzz:xs.all aj with
          |false=>
           rw [hzz] at hC
           have hz:=hvf.out (by rw [hFk.out];simp [b8,eh,hn.out,hzz])
           replace hz:=aa hz
           go_wp2_with (go_at_call 62;refine hC.out.mono ?_;rintro e w' ⟨rfl,rfl⟩)
           all_goals go_ret
           all_goals exact ⟨ad hz.out.symm,hgo.out⟩
          |true=>
           rw [hzz] at hC
           by_cases c4:n.tmod 8=0
           ·have c4z:(n.tmod 8 !=0)=false:=by rw [c4];rfl
            by_cases c5:n≤256
            ·have c5z:¬256<n:=by omega
             by_cases c6:ns.length=xs.length
             ·have c6z:((ns.length:Int) !=(xs.length:Int))=false:=by rw [c6];exact bne_self_eq_false _
              have hz:=aa (hNx.out (by rw [hFk.out];simp only [b8,eh,hn.out,hzz,decide_eq_true c1,decide_eq_true c2,decide_eq_true c4,decide_eq_true c5,decide_eq_true c6,Bool.and_true]))
              replace c6:=aa c6
              replace c4:=aa c4
              go_wp2_with (go_at_call 62;refine hC.out.mono ?_;rintro e w' ⟨rfl,rfl⟩)
              go_round
              case rel=>exact ⟨k+1,by omega,by go_num,hz⟩
              case measure=>simp [intOf];omega
             ·have c6z:((ns.length:Int) !=(xs.length:Int))=true:=by rw [bne_iff_ne];omega
              have hz:=hvf.out (by rw [hFk.out,decide_eq_false c6,Bool.and_false])
              replace hz:=aa hz
              replace c6:=aa c6
              replace c4:=aa c4
              go_wp2_with (go_at_call 62;refine hC.out.mono ?_;rintro e w' ⟨rfl,rfl⟩)
              all_goals go_ret
              all_goals exact ⟨ad hz.out.symm,hgo.out⟩
            ·have c5z:256<n:=by omega
             have c4h:=aa c4
             replace c4:=aa c4
             have hz:=hvf.out (by rw [hFk.out];simp [b8,eh,hn.out,c5])
             replace hz:=aa hz
             go_wp2_with (go_at_call 62;refine hC.out.mono ?_;rintro e w' ⟨rfl,rfl⟩)
             all_goals go_ret
             all_goals exact ⟨ad hz.out.symm,hgo.out⟩
           ·have c4z:(n.tmod 8 !=0)=true:=by rw [bne_iff_ne];exact c4
            have hz:=hvf.out (by rw [hFk.out];simp [b8,eh,hn.out,c4])
            replace hz:=aa hz
            go_wp2_with (go_at_call 62;refine hC.out.mono ?_;rintro e w' ⟨rfl,rfl⟩)
            all_goals go_ret
            all_goals exact ⟨ad hz.out.symm,hgo.out⟩
         ·have c2z:(16:Int)<(xs.length:Int):=by omega
          have hz:=hvf.out (by rw [hFk.out];simp [b8,eh,c2])
          replace hz:=aa hz
          go_wp2_with (go_at_call 62;refine hC.out.mono ?_;rintro e w' ⟨rfl,rfl⟩)
          all_goals go_ret
          all_goals exact ⟨ad hz.out.symm,hgo.out⟩
        ·have c1z:(xs.length:Int)<1:=by omega
         have hz:=hvf.out (by rw [hFk.out];simp [b8,eh,c1])
         replace hz:=aa hz
         go_wp2_with (go_at_call 62;refine hC.out.mono ?_;rintro e w' ⟨rfl,rfl⟩)
         all_goals go_ret
         all_goals exact ⟨ad hz.out.symm,hgo.out⟩
     ·have hke:k=p.heads.length:=by omega
      subst hke
      rw [hcn.out] at hv
      go_wp2
      go_ret
      exact ⟨ad hv.out.symm,hgo.out⟩
   rotate_right
   have a3z:((p.nf.length:Int) !=(p.heads.length:Int))=true:=by rw [bne_iff_ne];omega
   rw [decide_eq_false a3,Hg] at hv
   replace a3:=aa a3
  rotate_right
  have a2z:((p.nh.length:Int) !=(p.heads.length:Int))=true:=by rw [bne_iff_ne];omega
  rw [decide_eq_false a2,Hg,Hg] at hv
  replace a2:=aa a2
 rotate_right
 have a1z:(8:Int)<(p.heads.length:Int):=by omega
 rw [decide_eq_false a1,Hg,Hg,Hg] at hv
 all_goals
  go_wp2
  go_ret
  exact ⟨ad hv.out.symm,hgo.out⟩
theorem tg (x:Pt) (y:Int) (w:World) (hx:aI x.vh∧aI x.vl∧aI x.mh∧aI x.ml):Calls prog 124 #[.agg #[.int .u64 x.vh,.int .u64 x.vl,.int .u64 x.mh,.int .u64 x.ml],.int .i64 y] w fun e w'=>e=.returned (.bool (ef x y))∧Below w.heap.size w w':=by
 obtain ⟨vh,vl,mh,ml⟩:=x
 simp only at hx ⊢
 obtain ⟨wa,hwa,hsa,hba,hca,-⟩:=ak w #[.int .u64 vh,.int .u64 vl,.int .u64 mh,.int .u64 ml] 63
 have x0:wa.cell? ⟨w.heap.size,0,none⟩=some (.int .u64 vh):=hca 0
 have x1:wa.cell? ⟨w.heap.size,1,none⟩=some (.int .u64 vl):=hca 1
 have x2:wa.cell? ⟨w.heap.size,2,none⟩=some (.int .u64 mh):=hca 2
 have x3:wa.cell? ⟨w.heap.size,3,none⟩=some (.int .u64 ml):=hca 3
 have hlt:w.heap.size<wa.heap.size:=by omega
 have hF:∀ d os,Hid (Calls prog 125 #[.agg #[.int .u64 vh,.int .u64 vl],.int .i64 y] (Ht (redrawn wa d) os) _):=fun d os=>aa (gl vh vl y _ ⟨hx.1,hx.2.1⟩)
 have hH:∀ d os,Hid (Calls prog 125 #[.agg #[.int .u64 mh,.int .u64 ml],.int .i64 y] (Ht (redrawn wa d) os) _):=fun d os=>aa (gl mh ml y _ ⟨hx.2.2.1,hx.2.2.2⟩)
 have hA:∀ d os,Hid (Calls prog 165 #[.agg #[.int .u64 vh,.int .u64 vl],.agg #[.int .u64 mh,.int .u64 ml]] (Ht (redrawn wa d) os) _):=fun d os=>aa (xT vh vl mh ml _ hx.1 hx.2.1 hx.2.2.1 hx.2.2.2)
 have hv:=aa (show ef ⟨vh,vl,mh,ml⟩ y=(bN y vh vl&&bN y mh ml&&(decide (aJ vh mh=vh)&&decide (aJ vl ml=vl))) from rfl)
 have hg:=aE (show Below wa.heap.size wa wa from Hf _ _) (Hh _)
 have hfin:=aa (fun w1 (h:Below wa.heap.size wa w1)=>hba.trans (h.mono (show w.heap.size≤wa.heap.size by omega)))
 replace hsa:=aa hsa
 clear hca hba hx
 generalize bN y vh vl=F at hF hv
 generalize bN y mh ml=H at hH hv
 generalize aJ vh mh=a at hA hv
 generalize aJ vl ml=b at hA hv
 cases F with
 |false=>
  rw [Hg,Hg] at hv
  go_enter func124,ntmps124
  go_wp2_with fail
  refine bV ?_
  repeat (any_goals (first|go_big_quiet_step ((go_at_call 125;with_reducible exact Hi (hF _ _).out))|quiet_step ((go_at_call 125;with_reducible exact Hi (hF _ _).out))))
  refine wpQuiet_nil ?_
  intro w1 hw1
  replace hw1:=ac hw1
  go_wp2
  go_ret
  exact ⟨ad hv.out.symm,hfin.out _ hw1⟩
 |true=>
  cases H with
  |false=>
   rw [Hk,Hg] at hv
   go_enter func124,ntmps124
   go_wp2_with fail
   refine bV ?_
   repeat (any_goals (first|go_big_quiet_step (first|(go_at_call 125;with_reducible exact Hi (hF _ _).out)|(go_at_call 125;with_reducible exact Hi (hH _ _).out))|quiet_step (first|(go_at_call 125;with_reducible exact Hi (hF _ _).out)|(go_at_call 125;with_reducible exact Hi (hH _ _).out))))
   refine wpQuiet_nil ?_
   intro w1 hw1
   replace hw1:=ac hw1
   go_wp2
   go_ret
   exact ⟨ad hv.out.symm,hfin.out _ hw1⟩
  |true=>
   rw [Hk,Hk] at hv
   by_cases e1:a=vh
   ·subst e1
    by_cases e2:b=vl
    ·subst e2
     go_enter func124,ntmps124
     go_wp2_with fail
     refine bV ?_
     repeat (any_goals (first|go_big_quiet_step (first|(go_at_call 125;with_reducible exact Hi (hF _ _).out)|(go_at_call 125;with_reducible exact Hi (hH _ _).out)|(go_at_call 165;with_reducible exact Hi (hA _ _).out))|quiet_step (first|(go_at_call 125;with_reducible exact Hi (hF _ _).out)|(go_at_call 125;with_reducible exact Hi (hH _ _).out)|(go_at_call 165;with_reducible exact Hi (hA _ _).out))))
     refine wpQuiet_nil ?_
     intro w1 hw1
     replace hw1:=ac hw1
     go_wp2
     go_ret
     exact ⟨ad (by rw [hv.out];simp),hfin.out _ hw1⟩
    ·have e3:(b==vl)=false:=beq_eq_false_iff_ne.2 e2
     replace e2:=aa e2
     go_enter func124,ntmps124
     go_wp2_with fail
     refine bV ?_
     repeat (any_goals (first|go_big_quiet_step (first|(go_at_call 125;with_reducible exact Hi (hF _ _).out)|(go_at_call 125;with_reducible exact Hi (hH _ _).out)|(go_at_call 165;with_reducible exact Hi (hA _ _).out))|quiet_step (first|(go_at_call 125;with_reducible exact Hi (hF _ _).out)|(go_at_call 125;with_reducible exact Hi (hH _ _).out)|(go_at_call 165;with_reducible exact Hi (hA _ _).out))))
     refine wpQuiet_nil ?_
     intro w1 hw1
     replace hw1:=ac hw1
     go_wp2
     go_ret
     exact ⟨ad (by rw [hv.out];simp [e2.out]),hfin.out _ hw1⟩
   ·have e3:(a==vh)=false:=beq_eq_false_iff_ne.2 e1
    replace e1:=aa e1
    go_enter func124,ntmps124
    go_wp2_with fail
    refine bV ?_
    repeat (any_goals (first|go_big_quiet_step (first|(go_at_call 125;with_reducible exact Hi (hF _ _).out)|(go_at_call 125;with_reducible exact Hi (hH _ _).out)|(go_at_call 165;with_reducible exact Hi (hA _ _).out))|quiet_step (first|(go_at_call 125;with_reducible exact Hi (hF _ _).out)|(go_at_call 125;with_reducible exact Hi (hH _ _).out)|(go_at_call 165;with_reducible exact Hi (hA _ _).out))))
    refine wpQuiet_nil ?_
    intro w1 hw1
    replace hw1:=ac hw1
    go_wp2
    go_ret
    exact ⟨ad (by rw [hv.out];simp [e1.out]),hfin.out _ hw1⟩
end Go.Proofs.YtiebolhmdhdagaaGreatDoor

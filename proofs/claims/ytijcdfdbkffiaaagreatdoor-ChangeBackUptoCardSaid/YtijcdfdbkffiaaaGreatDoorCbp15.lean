import Derived.Test.YtijcdfdbkffiaaaGreatDoorCbp13
import Derived.Test.YtijcdfdbkffiaaaGreatDoorCbp14
set_option linter.all false
set_option maxHeartbeats 8000000
set_option maxRecDepth 100000
open Go.Proofs.Tryz
namespace Go.Proofs.YtijcdfdbkffiaaaGreatDoor
open _root_.Nat renaming lt_of_lt_of_le→Hr, le_refl→Ht, le_trans→Hw, zero_le→Hz, lt_trans→HW
open _root_.Go.RowKit.Below renaming refl→Hs
open _root_.Bool renaming false_and→Hu, true_and→Hx, and_eq_true→Hy, eq_iff_iff→HF, false_eq_true→H2
open _root_.Go.Calls renaming regrown_of→Hv
open _root_.List renaming getElem?_eq_getElem→HA, getElem_mem→HE, length_append→HM, take_length→H7, getD_eq_getElem?_getD→Iq
open _root_.Go.Sort renaming grow→HG
open _root_.Option renaming bind_some→HP, getD_some→If
open Go.RowKit
theorem dA (A1 A2 A3 A4 A5 A6 A7 A8 A9 A10 A11 A12:Option Addr) (p:Lp) (c1 c2 c3 c4 c5 c6 c7 c8 c9 c10 c11 c12:Nat) (w:World) (h:cz w w.heap.size A1 A2 A3 A4 A5 A6 A7 A8 A9 A10 A11 A12 p):
  Calls prog 22 #[.agg (aO A1 A2 A3 A4 A5 A6 A7 A8 A9 A10 A11 A12 p c1 c2 c3 c4 c5 c6 c7 c8 c9 c10 c11 c12)] w fun e w'=>e=.returned (.bool (bR p))∧Below w.heap.size w w':=by
 unfold aO
 have l1:=h.heads.len
 have l3:=h.steps.len
 have l4:=h.acts.len
 have l5:=h.tabs.len
 obtain ⟨wz,hwz,hsz,hbz,hcz,-⟩:=af w (aO A1 A2 A3 A4 A5 A6 A7 A8 A9 A10 A11 A12 p c1 c2 c3 c4 c5 c6 c7 c8 c9 c10 c11 c12) 33
 have lx:w.heap.size<wz.heap.size:=by omega
 have hP:∀ W,Below wz.heap.size wz W→cz W W.heap.size A1 A2 A3 A4 A5 A6 A7 A8 A9 A10 A11 A12 p:=fun W hW=>((h.below hbz).below (hW.mono hbz.size)).more (Hw hbz.size hW.size)
 have hv:=aa (show bR p=(decide (p.heads.length≤8)&&decide (1≤p.steps.length)&&decide (p.steps.length≤16)&&decide (p.acts.length≤16)&&decide (p.tabs.length≤8)&&
  p.heads.all bQ&&dU p.metas 16&&gl p&&mX p.emit p.heads.length&&ar (fun i=>aZ (vL p i) p.acts i) p.acts.length&&p.steps.all (ej p)&& !sP p.steps&&p.tabs.all (ij p)&&eQ p (-1) p.control) from rfl)
 have hH:=aa (fun W hW=>xu A1 c1 p.heads W (hP W hW).heads)
 have hW:=aa (fun W hW=>eZ A2 c2 p.metas 16 W (hP W hW).metas)
 have hN:=aa (fun W hW=>pA A1 A2 A3 A4 A5 A6 A7 A8 A9 A10 A11 A12 p c1 c2 c3 c4 c5 c6 c7 c8 c9 c10 c11 c12 W (hP W hW))
 have hD:=aa (fun W hW=>jf A7 c7 p.emit p.heads.length W (hP W hW).emit)
 have hS:=aa (fun W hW lx Y=>xy A1 A2 A3 A4 A5 A6 A7 A8 A9 A10 A11 A12 p c1 c2 c3 c4 c5 c6 c7 c8 c9 c10 c11 c12 w.heap.size W (hP W hW) lx Y)
 have hT:=aa (fun W hW lx Y=>AD A1 A2 A3 A4 A5 A6 A7 A8 A9 A10 A11 A12 p c1 c2 c3 c4 c5 c6 c7 c8 c9 c10 c11 c12 w.heap.size W (hP W hW) lx Y)
 have hI:=aa (fun W hW=>iZ A1 A2 A3 A4 A5 A6 A7 A8 A9 A10 A11 A12 p c1 c2 c3 c4 c5 c6 c7 c8 c9 c10 c11 c12 (-1) p.control A6 c6 W (hP W hW) (hP W hW).control)
 have hC:=aa (fun W hW hg hb=>tI p.steps A3 c3 W (hP W hW).steps hg hb)
 have hIa:=aa (fun act l A c W hW hL=>iZ A1 A2 A3 A4 A5 A6 A7 A8 A9 A10 A11 A12 p c1 c2 c3 c4 c5 c6 c7 c8 c9 c10 c11 c12 act l A c W (hP W hW) hL)
 have hP':=aa hP
 have Y:=aa hcz
 have hgo:=aa (fun W (hW:Below wz.heap.size wz W)=>hbz.trans (hW.mono hbz.size))
 obtain ⟨y0,y1,y2,y3,y4,y5,y6,y7,y8,y9,y10,y11⟩:=aF hcz
 replace hsz:=aa hsz
 clear hcz hbz h hP
 go_enter func22,ntmps22
 go_upto_region 1 with fail
 generalize hmn:(decide (p.heads.length≤8)&&decide (1≤p.steps.length)&&decide (p.steps.length≤16)&&decide (p.acts.length≤16)&&decide (p.tabs.length≤8))=mn at hv
 go_cut [3] (fun u wx=>u=.bool mn∧wx=wz)
 case first=>
  go_wp2
  all_goals go_meet
  all_goals refine ⟨congrArg Value.bool ?_,rfl⟩
  all_goals clear hv hH hW hN hD hS hT hI hC hP' Y hgo y0 y1 y2 y3 y4 y5 y6 y7 y8 y9 y10 y11
  all_goals (rw [←hmn,HF];simp only [Hy,decide_eq_true_eq,H2,eq_self_iff_true,true_iff,false_iff];try omega)
 case rest=>
  obtain ⟨rfl,hcx⟩:=hcut
  replace hcx:=hcx.symm
  subst hcx
  clear hmn
  generalize p.heads.all bQ=H at hH hv
  generalize dU p.metas 16=W at hW hv
  generalize gl p=N at hN hv
  generalize mX p.emit p.heads.length=D at hD hv
  cases mn with
  |false=>
   rw [Hu,Hu,Hu,Hu,Hu,Hu,Hu,Hu,Hu] at hv
   go_wp2
   go_ret
   exact ⟨ad hv.out.symm,hgo.out _ (Hs _ _)⟩
  |true=>
   rw [Hx] at hv
   cases H with
   |false=>
    rw [Hu,Hu,Hu,Hu,Hu,Hu,Hu,Hu] at hv
    go_wp2_with (go_at_call 32;refine (hH.out _ (Hs _ _)).mono ?_;rintro e w3 ⟨rfl,hb3⟩;obtain ⟨t0,t1,t2,t3,t4,t5,t6,t7,t8,t9,t10,t11⟩:=aF fun i=>(hb3.cell (p:=⟨w.heap.size,i,none⟩) lx).trans (Y.out i);have tl:=Hr lx hb3.size)
    go_ret
    exact ⟨ad hv.out.symm,hgo.out _ hb3⟩
   |true=>
    rw [Hx] at hv
    cases W with
    |false=>
     rw [Hu,Hu,Hu,Hu,Hu,Hu,Hu] at hv
     go_wp2_with (first|(go_at_call 32;refine (hH.out _ (Hs _ _)).mono ?_;rintro e w3 ⟨rfl,hb3⟩;obtain ⟨t0,t1,t2,t3,t4,t5,t6,t7,t8,t9,t10,t11⟩:=aF fun i=>(hb3.cell (p:=⟨w.heap.size,i,none⟩) lx).trans (Y.out i);have tl:=Hr lx hb3.size)|(go_at_call 35;refine (hW.out _ hb3).mono ?_;rintro e w4 ⟨rfl,hb4'⟩;have hb4:=hb3.trans (hb4'.mono hb3.size);obtain ⟨u0,u1,u2,u3,u4,u5,u6,u7,u8,u9,u10,u11⟩:=aF fun i=>(hb4.cell (p:=⟨w.heap.size,i,none⟩) lx).trans (Y.out i);have ul:=Hr lx hb4.size))
     go_ret
     exact ⟨ad hv.out.symm,hgo.out _ hb4⟩
    |true=>
     rw [Hx] at hv
     cases N with
     |false=>
      rw [Hu,Hu,Hu,Hu,Hu,Hu] at hv
      go_wp2_with (first|(go_at_call 32;refine (hH.out _ (Hs _ _)).mono ?_;rintro e w3 ⟨rfl,hb3⟩;obtain ⟨t0,t1,t2,t3,t4,t5,t6,t7,t8,t9,t10,t11⟩:=aF fun i=>(hb3.cell (p:=⟨w.heap.size,i,none⟩) lx).trans (Y.out i);have tl:=Hr lx hb3.size)|(go_at_call 35;refine (hW.out _ hb3).mono ?_;rintro e w4 ⟨rfl,hb4'⟩;have hb4:=hb3.trans (hb4'.mono hb3.size);obtain ⟨u0,u1,u2,u3,u4,u5,u6,u7,u8,u9,u10,u11⟩:=aF fun i=>(hb4.cell (p:=⟨w.heap.size,i,none⟩) lx).trans (Y.out i);have ul:=Hr lx hb4.size)|(go_at_call 36;refine (hN.out _ hb4).mono ?_;rintro e w5 ⟨rfl,hb5'⟩;have hb5:=hb4.trans (hb5'.mono hb4.size);obtain ⟨v0,v1,v2,v3,v4,v5,v6,v7,v8,v9,v10,v11⟩:=aF fun i=>(hb5.cell (p:=⟨w.heap.size,i,none⟩) lx).trans (Y.out i);have vl:=Hr lx hb5.size))
      go_ret
      exact ⟨ad hv.out.symm,hgo.out _ hb5⟩
     |true=>
      rw [Hx] at hv
      cases D with
      |false=>
       rw [Hu,Hu,Hu,Hu,Hu] at hv
       go_wp2_with (first|(go_at_call 32;refine (hH.out _ (Hs _ _)).mono ?_;rintro e w3 ⟨rfl,hb3⟩;obtain ⟨t0,t1,t2,t3,t4,t5,t6,t7,t8,t9,t10,t11⟩:=aF fun i=>(hb3.cell (p:=⟨w.heap.size,i,none⟩) lx).trans (Y.out i);have tl:=Hr lx hb3.size)|(go_at_call 35;refine (hW.out _ hb3).mono ?_;rintro e w4 ⟨rfl,hb4'⟩;have hb4:=hb3.trans (hb4'.mono hb3.size);obtain ⟨u0,u1,u2,u3,u4,u5,u6,u7,u8,u9,u10,u11⟩:=aF fun i=>(hb4.cell (p:=⟨w.heap.size,i,none⟩) lx).trans (Y.out i);have ul:=Hr lx hb4.size)|(go_at_call 36;refine (hN.out _ hb4).mono ?_;rintro e w5 ⟨rfl,hb5'⟩;have hb5:=hb4.trans (hb5'.mono hb4.size);obtain ⟨v0,v1,v2,v3,v4,v5,v6,v7,v8,v9,v10,v11⟩:=aF fun i=>(hb5.cell (p:=⟨w.heap.size,i,none⟩) lx).trans (Y.out i);have vl:=Hr lx hb5.size)|(go_at_call 37;refine (hD.out _ hb5).mono ?_;rintro e w' ⟨rfl,rfl⟩))
       go_ret
       exact ⟨ad hv.out.symm,hgo.out _ hb5⟩
      |true=>
       rw [Hx] at hv
       go_upto_region 4 with (first|(go_at_call 32;refine (hH.out _ (Hs _ _)).mono ?_;rintro e w3 ⟨rfl,hb3⟩;obtain ⟨t0,t1,t2,t3,t4,t5,t6,t7,t8,t9,t10,t11⟩:=aF fun i=>(hb3.cell (p:=⟨w.heap.size,i,none⟩) lx).trans (Y.out i);have tl:=Hr lx hb3.size)|(go_at_call 35;refine (hW.out _ hb3).mono ?_;rintro e w4 ⟨rfl,hb4'⟩;have hb4:=hb3.trans (hb4'.mono hb3.size);obtain ⟨u0,u1,u2,u3,u4,u5,u6,u7,u8,u9,u10,u11⟩:=aF fun i=>(hb4.cell (p:=⟨w.heap.size,i,none⟩) lx).trans (Y.out i);have ul:=Hr lx hb4.size)|(go_at_call 36;refine (hN.out _ hb4).mono ?_;rintro e w5 ⟨rfl,hb5'⟩;have hb5:=hb4.trans (hb5'.mono hb4.size);obtain ⟨v0,v1,v2,v3,v4,v5,v6,v7,v8,v9,v10,v11⟩:=aF fun i=>(hb5.cell (p:=⟨w.heap.size,i,none⟩) lx).trans (Y.out i);have vl:=Hr lx hb5.size)|(go_at_call 37;refine (hD.out _ hb5).mono ?_;rintro e w' ⟨rfl,rfl⟩))
       generalize hF:(fun i=>aZ (vL p i) p.acts i)=F at hv
       generalize hSt:p.steps.all (ej p)=St at hS hv
       generalize sP p.steps=Cy at hC hv
       generalize p.tabs.all (ij p)=Tb at hT hv
       generalize eQ p (-1) p.control=In at hI hv
       clear y0 y1 y2 y3 y4 y5 y6 y7 y8 y9 y10 y11 hH hW hN hD
       replace hb5:=aa hb5
       replace hF:=aa hF
       replace hSt:=aa hSt
       go_wp2
       go_loopw [4,5,65] (fun _ _ i wr=>∃ k:Nat,k≤p.acts.length∧i=.int .i64 k∧Hid (ar F k=true)∧Hid (Below wz.heap.size wz wr)) (fun _ _ i _=>p.acts.length-(intOf i).toNat)
       case atStart=>exact ⟨0,Hz _,rfl,aa rfl,hb5⟩
       case round=>
        obtain ⟨k,hk,rfl,hcn,hG⟩:=hrel
        have hzr:=hG.out.size
        have lr:=Hr lx hzr
        clear v0 v1 v2 v3 v4 v5 v6 v7 v8 v9 v10 v11
        by_cases hlt:k<p.acts.length
        ·have hkz:(k:Int)<(p.acts.length:Int):=by omega
         obtain ⟨b,o,A',B',ca,cb,hAe,hb,n0,n1,hE1,hE2⟩:=(hP'.out wr hG.out).acts.act hlt
         subst hAe
         have hFk:F k=(dU p.acts[k].params 8&&eQ p k p.acts[k].body):=by rw [←hF.out];simp only [am _ hlt];rfl
         have hNx:=aa (fun (g:F k=true)=>show ar F (k+1)=true from by rw [ar,hcn.out,g];rfl)
         have hlo:=aa (fun (g:F k=false)=>show ar F p.acts.length=false from ba hlt g)
         generalize p.acts[k]=x at n0 n1 hE1 hE2 hFk
         obtain ⟨ps,body⟩:=x
         simp only at n0 n1 hE1 hE2 hFk
         have lps:=hE1.len
         have lbd:=hE2.len
         obtain ⟨wn,hwn,hsn,hbn,hcl,-⟩:=af wr #[.slice A' ps.length ca,.slice B' body.length cb] 85
         have m0:wn.cell? ⟨wr.heap.size,0,none⟩=some (.slice A' ps.length ca):=hcl 0
         have m1:wn.cell? ⟨wr.heap.size,1,none⟩=some (.slice B' body.length cb):=hcl 1
         have hGn:Below wz.heap.size wz wn:=hG.out.trans (hbn.mono hzr)
         have lw1:w.heap.size<wn.heap.size:=Hr lr hbn.size
         have lw2:wr.heap.size<wn.heap.size:=by omega
         obtain ⟨y0,y1,y2,y3,y4,y5,y6,y7,y8,y9,y10,y11⟩:=aF fun i=>(hGn.cell (p:=⟨w.heap.size,i,none⟩) lx).trans (Y.out i)
         have hW8:=eZ A' ca ps 8 wn ((hE1.below ah hbn).more ah hbn.size)
         have hE2n:=(hE2.below bz hbn).more bz hbn.size
         have hI8:=fun W (hW:Below wn.heap.size wn W)=>hIa.out k body B' cb W (hGn.trans (hW.mono hGn.size)) ((hE2n.below bz hW).more bz hW.size)
         generalize dU ps 8=W1 at hW8 hFk
         generalize eQ p k body=I1 at hI8 hFk
         replace hW8:=aa hW8
         replace hI8:=aa hI8
         replace hGn:=aa hGn
         replace hsn:=aa hsn
         clear hcl hbn hE1 hE2 hE2n
         cases W1 with
         |false=>
          rw [Hu] at hFk
          rw [hlo.out hFk,Hu,Hu,Hu,Hu] at hv
          replace hFk:=aa hFk
          go_wp2_with (go_at_call 35;refine hW8.out.mono ?_;rintro e w6 ⟨rfl,hb6⟩)
          go_ret
          exact ⟨ad hv.out.symm,hgo.out _ (hGn.out.trans (hb6.mono hGn.out.size))⟩
         |true=>
          rw [Hx] at hFk
          cases I1 with
          |false=>
           rw [hlo.out hFk,Hu,Hu,Hu,Hu] at hv
           replace hFk:=aa hFk
           go_wp2_with (first|(go_at_call 35;refine hW8.out.mono ?_;rintro e w6 ⟨rfl,hb6⟩;have q1:=(hb6.cell (p:=⟨wr.heap.size,1,none⟩) lw2).trans m1;have ll6:=Hr lw2 hb6.size;have lm6:=Hr lw1 hb6.size;have hB6:=hGn.out.trans (hb6.mono hGn.out.size);obtain ⟨t0,t1,t2,t3,t4,t5,t6,t7,t8,t9,t10,t11⟩:=aF fun i=>(hB6.cell (p:=⟨w.heap.size,i,none⟩) lx).trans (Y.out i))|(go_at_call 38;refine (hI8.out _ hb6).mono ?_;rintro e w7 ⟨rfl,hb7'⟩;have hb7:=hb6.trans (hb7'.mono hb6.size)))
           go_ret
           exact ⟨ad hv.out.symm,hgo.out _ (hGn.out.trans (hb7.mono hGn.out.size))⟩
          |true=>
           replace hNx:=aa (hNx.out hFk)
           replace hFk:=aa hFk
           go_wp2_with (first|(go_at_call 35;refine hW8.out.mono ?_;rintro e w6 ⟨rfl,hb6⟩;have q1:=(hb6.cell (p:=⟨wr.heap.size,1,none⟩) lw2).trans m1;have ll6:=Hr lw2 hb6.size;have lm6:=Hr lw1 hb6.size;have hB6:=hGn.out.trans (hb6.mono hGn.out.size);obtain ⟨t0,t1,t2,t3,t4,t5,t6,t7,t8,t9,t10,t11⟩:=aF fun i=>(hB6.cell (p:=⟨w.heap.size,i,none⟩) lx).trans (Y.out i))|(go_at_call 38;refine (hI8.out _ hb6).mono ?_;rintro e w7 ⟨rfl,hb7'⟩;have hb7:=hb6.trans (hb7'.mono hb6.size)))
           go_roundw
           case rel=>exact ⟨k+1,by omega,by go_num,hNx,aa (hGn.out.trans (hb7.mono hGn.out.size))⟩
           case measure=>simp [intOf];omega
        ·have hke:k=p.acts.length:=by omega
         rw [hke] at hcn
         rw [hcn.out,Hx] at hv
         obtain ⟨y0,y1,y2,y3,y4,y5,y6,y7,y8,y9,y10,y11⟩:=aF fun i=>(hG.out.cell (p:=⟨w.heap.size,i,none⟩) lx).trans (Y.out i)
         cases St with
         |false=>
          rw [Hu,Hu,Hu] at hv
          go_wp2_with (go_at_call 39;refine (hS.out _ hG.out (Hr lx hG.out.size) (fun i=>(hG.out.cell (p:=⟨w.heap.size,i,none⟩) lx).trans (Y.out i))).mono ?_;rintro e w6 ⟨rfl,hb6'⟩;have hb6:=hG.out.trans (hb6'.mono hG.out.size);obtain ⟨t0,t1,t2,t3,t4,t5,t6,t7,t8,t9,t10,t11⟩:=aF fun i=>(hb6.cell (p:=⟨w.heap.size,i,none⟩) lx).trans (Y.out i);have ll6:=Hr lx hb6.size)
          go_ret
          exact ⟨ad hv.out.symm,hgo.out _ hb6⟩
         |true=>
          rw [Hx] at hv
          replace hC:=aa (fun W hW=>hC.out W hW (qj p hSt.out) (CS hSt.out))
          cases Cy with
          |true=>
           rw [Bool.not_true,Hu,Hu] at hv
           go_wp2_with (first|(go_at_call 39;refine (hS.out _ hG.out (Hr lx hG.out.size) (fun i=>(hG.out.cell (p:=⟨w.heap.size,i,none⟩) lx).trans (Y.out i))).mono ?_;rintro e w6 ⟨rfl,hb6'⟩;have hb6:=hG.out.trans (hb6'.mono hG.out.size);obtain ⟨t0,t1,t2,t3,t4,t5,t6,t7,t8,t9,t10,t11⟩:=aF fun i=>(hb6.cell (p:=⟨w.heap.size,i,none⟩) lx).trans (Y.out i);have ll6:=Hr lx hb6.size)|(go_at_call 42;refine (hC.out _ hb6).mono ?_;rintro e w7 ⟨rfl,hb7'⟩;have hb7:=hb6.trans (hb7'.mono hb6.size);obtain ⟨u0,u1,u2,u3,u4,u5,u6,u7,u8,u9,u10,u11⟩:=aF fun i=>(hb7.cell (p:=⟨w.heap.size,i,none⟩) lx).trans (Y.out i);have ll7:=Hr lx hb7.size))
           go_ret
           exact ⟨ad hv.out.symm,hgo.out _ hb7⟩
          |false=>
           rw [Bool.not_false,Hx] at hv
           cases Tb with
           |false=>
            rw [Hu] at hv
            go_wp2_with (first|(go_at_call 39;refine (hS.out _ hG.out (Hr lx hG.out.size) (fun i=>(hG.out.cell (p:=⟨w.heap.size,i,none⟩) lx).trans (Y.out i))).mono ?_;rintro e w6 ⟨rfl,hb6'⟩;have hb6:=hG.out.trans (hb6'.mono hG.out.size);obtain ⟨t0,t1,t2,t3,t4,t5,t6,t7,t8,t9,t10,t11⟩:=aF fun i=>(hb6.cell (p:=⟨w.heap.size,i,none⟩) lx).trans (Y.out i);have ll6:=Hr lx hb6.size)|(go_at_call 42;refine (hC.out _ hb6).mono ?_;rintro e w7 ⟨rfl,hb7'⟩;have hb7:=hb6.trans (hb7'.mono hb6.size);obtain ⟨u0,u1,u2,u3,u4,u5,u6,u7,u8,u9,u10,u11⟩:=aF fun i=>(hb7.cell (p:=⟨w.heap.size,i,none⟩) lx).trans (Y.out i);have ll7:=Hr lx hb7.size)|(go_at_call 43;refine (hT.out _ hb7 (Hr lx hb7.size) (fun i=>(hb7.cell (p:=⟨w.heap.size,i,none⟩) lx).trans (Y.out i))).mono ?_;rintro e w8 ⟨rfl,hb8'⟩;have hb8:=hb7.trans (hb8'.mono hb7.size);obtain ⟨v0,v1,v2,v3,v4,v5,v6,v7,v8,v9,v10,v11⟩:=aF fun i=>(hb8.cell (p:=⟨w.heap.size,i,none⟩) lx).trans (Y.out i);have ll8:=Hr lx hb8.size))
            go_ret
            exact ⟨ad hv.out.symm,hgo.out _ hb8⟩
           |true=>
            rw [Hx] at hv
            go_wp2_with (first|(go_at_call 39;refine (hS.out _ hG.out (Hr lx hG.out.size) (fun i=>(hG.out.cell (p:=⟨w.heap.size,i,none⟩) lx).trans (Y.out i))).mono ?_;rintro e w6 ⟨rfl,hb6'⟩;have hb6:=hG.out.trans (hb6'.mono hG.out.size);obtain ⟨t0,t1,t2,t3,t4,t5,t6,t7,t8,t9,t10,t11⟩:=aF fun i=>(hb6.cell (p:=⟨w.heap.size,i,none⟩) lx).trans (Y.out i);have ll6:=Hr lx hb6.size)|(go_at_call 42;refine (hC.out _ hb6).mono ?_;rintro e w7 ⟨rfl,hb7'⟩;have hb7:=hb6.trans (hb7'.mono hb6.size);obtain ⟨u0,u1,u2,u3,u4,u5,u6,u7,u8,u9,u10,u11⟩:=aF fun i=>(hb7.cell (p:=⟨w.heap.size,i,none⟩) lx).trans (Y.out i);have ll7:=Hr lx hb7.size)|(go_at_call 43;refine (hT.out _ hb7 (Hr lx hb7.size) (fun i=>(hb7.cell (p:=⟨w.heap.size,i,none⟩) lx).trans (Y.out i))).mono ?_;rintro e w8 ⟨rfl,hb8'⟩;have hb8:=hb7.trans (hb8'.mono hb7.size);obtain ⟨v0,v1,v2,v3,v4,v5,v6,v7,v8,v9,v10,v11⟩:=aF fun i=>(hb8.cell (p:=⟨w.heap.size,i,none⟩) lx).trans (Y.out i);have ll8:=Hr lx hb8.size)|(go_at_call 38;refine (hI.out _ hb8).mono ?_;rintro e w9 ⟨rfl,hb9'⟩;have hb9:=hb8.trans (hb9'.mono hb8.size)))
            go_ret
            exact ⟨ad hv.out.symm,hgo.out _ hb9⟩
theorem tP (A1 A2 A3 A4 A5 A6 A7 A8 A9 A10 A11 A12:Option Addr) (p:Lp) (c1 c2 c3 c4 c5 c6 c7 c8 c9 c10 c11 c12:Nat) (w:World) (h:cz w w.heap.size A1 A2 A3 A4 A5 A6 A7 A8 A9 A10 A11 A12 p):
  Calls prog 47 #[.agg (aO A1 A2 A3 A4 A5 A6 A7 A8 A9 A10 A11 A12 p c1 c2 c3 c4 c5 c6 c7 c8 c9 c10 c11 c12)] w fun e w'=>e=.returned (.bool (ik p))∧Below w.heap.size w w':=by
 unfold aO
 have l1:=h.heads.len
 have l8:=h.nh.len
 have l9:=h.nf.len
 obtain ⟨wz,hwz,hsz,hbz,hcz,-⟩:=af w (aO A1 A2 A3 A4 A5 A6 A7 A8 A9 A10 A11 A12 p c1 c2 c3 c4 c5 c6 c7 c8 c9 c10 c11 c12) 33
 have lx:w.heap.size<wz.heap.size:=by omega
 have hP:=(h.below hbz).more hbz.size
 have hHd:=aa hP.heads
 have hNf:=aa hP.nf
 obtain ⟨y0,-,-,-,-,-,-,y7,y8,-,-,-⟩:=aF hcz
 have hgo:=aa hbz
 have hv:=aa (show ik p=(decide (p.heads.length≤8)&&decide (p.nh.length=p.heads.length)&&decide (p.nf.length=p.heads.length)&&ar (fun i=>aZ bQ p.heads i&&aZ (fun l=>aZ (fun n=>decide (n.length=l.length)) p.nf i) p.heads i) p.heads.length) from rfl)
 replace hsz:=aa hsz
 clear hcz hbz h hP
 generalize hF:(fun i=>aZ bQ p.heads i&&aZ (fun l=>aZ (fun (n:List ByteArray)=>decide (n.length=l.length)) p.nf i) p.heads i)=F at hv
 replace hF:=aa hF
 go_enter func47,ntmps47
 by_cases a1:p.heads.length≤8
 focus
  have a1z:¬(8:Int)<(p.heads.length:Int):=by omega
  rw [decide_eq_true a1,Hx] at hv
  by_cases a2:p.nh.length=p.heads.length
  focus
   have a2z:((p.nh.length:Int) !=(p.heads.length:Int))=false:=by rw [a2];exact bne_self_eq_false _
   rw [decide_eq_true a2,Hx] at hv
   replace a2:=aa a2
   by_cases a3:p.nf.length=p.heads.length
   focus
    have a3z:((p.nf.length:Int) !=(p.heads.length:Int))=false:=by rw [a3];exact bne_self_eq_false _
    rw [decide_eq_true a3,Hx] at hv
    replace a3:=aa a3
    go_wp2
    go_loop [3,4,5,6] (fun i _ _ _=>∃ k:Nat,k≤p.heads.length∧i=.int .i64 k∧Hid (ar F k=true)) (fun i _ _ _=>p.heads.length-(intOf i).toNat)
    case atStart=>exact ⟨0,Hz _,rfl,aa rfl⟩
    case round=>
     obtain ⟨k,hk,rfl,hcn⟩:=hrel
     by_cases hlt:k<p.heads.length
     ·have hkz:(k:Int)<(p.heads.length:Int):=by omega
      have hlt9:k<p.nf.length:=by rw [a3.out];exact hlt
      have hkz9:(k:Int)<(p.nf.length:Int):=by omega
      obtain ⟨b,o,A',c',hA1,hb,hcell,hE⟩:=hHd.out.ints hlt
      obtain ⟨b9,o9,A9',c9',hA9,hb9,hcell9,hl9⟩:=hNf.out.strs hlt9
      subst hA1
      subst hA9
      have hFk:F k=(bQ p.heads[k]&&decide (p.nf[k].length=p.heads[k].length)):=by rw [←hF.out];simp only [am _ hlt,am _ hlt9]
      have hNx:=aa (fun (g:F k=true)=>show ar F (k+1)=true from by rw [ar,hcn.out,g];rfl)
      have hlo:=aa (fun (g:F k=false)=>show ar F p.heads.length=false from ba hlt g)
      generalize p.heads[k]=xs at hcell hE hFk
      generalize p.nf[k]=ns at hcell9 hl9 hFk
      replace hFk:=aa hFk
      have hls:=hE.len
      have hC:=aa (iA A' c' xs wz hE)
      have hvf:=aa (fun (g:F k=false)=>hv.out.trans (hlo.out g))
      go_wp2
      go_loop [5,6] (fun s i=>∃ m:Nat,m≤xs.length∧i=.int .i64 m∧∃ n,s=.int .i64 n∧Hid (iL 0 (xs.take m)=n)) (fun _ i=>xs.length-(intOf i).toNat)
      case atStart=>exact ⟨0,Hz _,rfl,0,rfl,aa rfl⟩
      case round=>
       obtain ⟨m,hm,rfl,n,rfl,hn⟩:=hrel
       by_cases hlt2:m<xs.length
       ·obtain ⟨b',o',hA2,hb',hcell'⟩:=hE.int hlt2
        subst hA2
        have hmz:(m:Int)<(xs.length:Int):=by omega
        have hs:=aa (show iL 0 (xs.take (m+1))=wrap64 (n+xs[m]) from by rw [ou hlt2,hn.out])
        go_wp2
        go_round
        case rel=>exact ⟨m+1,by omega,by go_num,_,rfl,hs⟩
        case measure=>simp [intOf];omega
       ·have hke:m=xs.length:=by omega
        rw [hke,H7] at hn
        by_cases c1:1≤xs.length
        ·have c1z:¬(xs.length:Int)<1:=by omega
         by_cases c2:xs.length≤16
         ·have c2z:¬(16:Int)<(xs.length:Int):=by omega
          cases hzz:xs.all aj with
          |false=>
           rw [hzz] at hC
           have hz:=hvf.out (by rw [hFk.out];simp [bQ,dU,hn.out,hzz])
           replace hz:=aa hz
           go_wp2_with (go_at_call 48;refine hC.out.mono ?_;rintro e w' ⟨rfl,rfl⟩)
           all_goals go_ret
           all_goals exact ⟨ad hz.out.symm,hgo.out⟩
          |true=>
           rw [hzz] at hC
           by_cases c4:n.tmod 8=0
           ·have c4z:(n.tmod 8 !=0)=false:=by rw [c4];rfl
            by_cases c5:n≤256
            ·have c5z:¬256<n:=by omega
             by_cases c6:ns.length=xs.length
             ·have c6z:((ns.length:Int) !=(xs.length:Int))=false:=by rw [c6];exact bne_self_eq_false _
              have hz:=aa (hNx.out (by rw [hFk.out];simp only [bQ,dU,hn.out,hzz,decide_eq_true c1,decide_eq_true c2,decide_eq_true c4,decide_eq_true c5,decide_eq_true c6,Bool.and_true]))
              replace c6:=aa c6
              replace c4:=aa c4
              go_wp2_with (go_at_call 48;refine hC.out.mono ?_;rintro e w' ⟨rfl,rfl⟩)
              go_round
              case rel=>exact ⟨k+1,by omega,by go_num,hz⟩
              case measure=>simp [intOf];omega
             ·have c6z:((ns.length:Int) !=(xs.length:Int))=true:=by rw [bne_iff_ne];omega
              have hz:=hvf.out (by rw [hFk.out,decide_eq_false c6,Bool.and_false])
              replace hz:=aa hz
              replace c6:=aa c6
              replace c4:=aa c4
              go_wp2_with (go_at_call 48;refine hC.out.mono ?_;rintro e w' ⟨rfl,rfl⟩)
              all_goals go_ret
              all_goals exact ⟨ad hz.out.symm,hgo.out⟩
            ·have c5z:256<n:=by omega
             have c4h:=aa c4
             replace c4:=aa c4
             have hz:=hvf.out (by rw [hFk.out];simp [bQ,dU,hn.out,c5])
             replace hz:=aa hz
             go_wp2_with (go_at_call 48;refine hC.out.mono ?_;rintro e w' ⟨rfl,rfl⟩)
             all_goals go_ret
             all_goals exact ⟨ad hz.out.symm,hgo.out⟩
           ·have c4z:(n.tmod 8 !=0)=true:=by rw [bne_iff_ne];exact c4
            have hz:=hvf.out (by rw [hFk.out];simp [bQ,dU,hn.out,c4])
            replace hz:=aa hz
            go_wp2_with (go_at_call 48;refine hC.out.mono ?_;rintro e w' ⟨rfl,rfl⟩)
            all_goals go_ret
            all_goals exact ⟨ad hz.out.symm,hgo.out⟩
         ·have c2z:(16:Int)<(xs.length:Int):=by omega
          have hz:=hvf.out (by rw [hFk.out];simp [bQ,dU,c2])
          replace hz:=aa hz
          go_wp2_with (go_at_call 48;refine hC.out.mono ?_;rintro e w' ⟨rfl,rfl⟩)
          all_goals go_ret
          all_goals exact ⟨ad hz.out.symm,hgo.out⟩
        ·have c1z:(xs.length:Int)<1:=by omega
         have hz:=hvf.out (by rw [hFk.out];simp [bQ,dU,c1])
         replace hz:=aa hz
         go_wp2_with (go_at_call 48;refine hC.out.mono ?_;rintro e w' ⟨rfl,rfl⟩)
         all_goals go_ret
         all_goals exact ⟨ad hz.out.symm,hgo.out⟩
     ·have hke:k=p.heads.length:=by omega
      subst hke
      rw [hcn.out] at hv
      go_wp2
      go_ret
      exact ⟨ad hv.out.symm,hgo.out⟩
   rotate_right
   have a3z:((p.nf.length:Int) !=(p.heads.length:Int))=true:=by rw [bne_iff_ne];omega
   rw [decide_eq_false a3,Hu] at hv
   replace a3:=aa a3
  rotate_right
  have a2z:((p.nh.length:Int) !=(p.heads.length:Int))=true:=by rw [bne_iff_ne];omega
  rw [decide_eq_false a2,Hu,Hu] at hv
  replace a2:=aa a2
 rotate_right
 have a1z:(8:Int)<(p.heads.length:Int):=by omega
 rw [decide_eq_false a1,Hu,Hu,Hu] at hv
 all_goals
  go_wp2
  go_ret
  exact ⟨ad hv.out.symm,hgo.out⟩
theorem rD (x:Pt) (y:Int) (w:World) (hx:aW x.vh∧aW x.vl∧aW x.mh∧aW x.ml):Calls prog 106 #[.agg #[.int .u64 x.vh,.int .u64 x.vl,.int .u64 x.mh,.int .u64 x.ml],.int .i64 y] w fun e w'=>e=.returned (.bool (dR x y))∧Below w.heap.size w w':=by
 obtain ⟨vh,vl,mh,ml⟩:=x
 simp only at hx ⊢
 obtain ⟨wa,hwa,hsa,hba,hca,-⟩:=af w #[.int .u64 vh,.int .u64 vl,.int .u64 mh,.int .u64 ml] 101
 have x0:wa.cell? ⟨w.heap.size,0,none⟩=some (.int .u64 vh):=hca 0
 have x1:wa.cell? ⟨w.heap.size,1,none⟩=some (.int .u64 vl):=hca 1
 have x2:wa.cell? ⟨w.heap.size,2,none⟩=some (.int .u64 mh):=hca 2
 have x3:wa.cell? ⟨w.heap.size,3,none⟩=some (.int .u64 ml):=hca 3
 have hlt:w.heap.size<wa.heap.size:=by omega
 have hF:∀ d os,Hid (Calls prog 107 #[.agg #[.int .u64 vh,.int .u64 vl],.int .i64 y] (HG (redrawn wa d) os) _):=fun d os=>aa (fS vh vl y _ ⟨hx.1,hx.2.1⟩)
 have hH:∀ d os,Hid (Calls prog 107 #[.agg #[.int .u64 mh,.int .u64 ml],.int .i64 y] (HG (redrawn wa d) os) _):=fun d os=>aa (fS mh ml y _ ⟨hx.2.2.1,hx.2.2.2⟩)
 have hA:∀ d os,Hid (Calls prog 142 #[.agg #[.int .u64 vh,.int .u64 vl],.agg #[.int .u64 mh,.int .u64 ml]] (HG (redrawn wa d) os) _):=fun d os=>aa (wE vh vl mh ml _ hx.1 hx.2.1 hx.2.2.1 hx.2.2.2)
 have hv:=aa (show dR ⟨vh,vl,mh,ml⟩ y=(bJ y vh vl&&bJ y mh ml&&(decide (aJ vh mh=vh)&&decide (aJ vl ml=vl))) from rfl)
 have hg:=aS (show Below wa.heap.size wa wa from Hs _ _) (Ht _)
 have hfin:=aa (fun w1 (h:Below wa.heap.size wa w1)=>hba.trans (h.mono (show w.heap.size≤wa.heap.size by omega)))
 replace hsa:=aa hsa
 clear hca hba hx
 generalize bJ y vh vl=F at hF hv
 generalize bJ y mh ml=H at hH hv
 generalize aJ vh mh=a at hA hv
 generalize aJ vl ml=b at hA hv
 cases F with
 |false=>
  rw [Hu,Hu] at hv
  go_enter func106,ntmps106
  go_wp2_with fail
  refine cR ?_
  repeat (any_goals (first|go_big_quiet_step ((go_at_call 107;with_reducible exact Hv (hF _ _).out))|quiet_step ((go_at_call 107;with_reducible exact Hv (hF _ _).out))))
  refine wpQuiet_nil ?_
  intro w1 hw1
  replace hw1:=ac hw1
  go_wp2
  go_ret
  exact ⟨ad hv.out.symm,hfin.out _ hw1⟩
 |true=>
  cases H with
  |false=>
   rw [Hx,Hu] at hv
   go_enter func106,ntmps106
   go_wp2_with fail
   refine cR ?_
   repeat (any_goals (first|go_big_quiet_step (first|(go_at_call 107;with_reducible exact Hv (hF _ _).out)|(go_at_call 107;with_reducible exact Hv (hH _ _).out))|quiet_step (first|(go_at_call 107;with_reducible exact Hv (hF _ _).out)|(go_at_call 107;with_reducible exact Hv (hH _ _).out))))
   refine wpQuiet_nil ?_
   intro w1 hw1
   replace hw1:=ac hw1
   go_wp2
   go_ret
   exact ⟨ad hv.out.symm,hfin.out _ hw1⟩
  |true=>
   rw [Hx,Hx] at hv
   by_cases e1:a=vh
   ·subst e1
    by_cases e2:b=vl
    ·subst e2
     go_enter func106,ntmps106
     go_wp2_with fail
     refine cR ?_
     repeat (any_goals (first|go_big_quiet_step (first|(go_at_call 107;with_reducible exact Hv (hF _ _).out)|(go_at_call 107;with_reducible exact Hv (hH _ _).out)|(go_at_call 142;with_reducible exact Hv (hA _ _).out))|quiet_step (first|(go_at_call 107;with_reducible exact Hv (hF _ _).out)|(go_at_call 107;with_reducible exact Hv (hH _ _).out)|(go_at_call 142;with_reducible exact Hv (hA _ _).out))))
     refine wpQuiet_nil ?_
     intro w1 hw1
     replace hw1:=ac hw1
     go_wp2
     go_ret
     exact ⟨ad (by rw [hv.out];simp),hfin.out _ hw1⟩
    ·have e3:(b==vl)=false:=beq_eq_false_iff_ne.2 e2
     replace e2:=aa e2
     go_enter func106,ntmps106
     go_wp2_with fail
     refine cR ?_
     repeat (any_goals (first|go_big_quiet_step (first|(go_at_call 107;with_reducible exact Hv (hF _ _).out)|(go_at_call 107;with_reducible exact Hv (hH _ _).out)|(go_at_call 142;with_reducible exact Hv (hA _ _).out))|quiet_step (first|(go_at_call 107;with_reducible exact Hv (hF _ _).out)|(go_at_call 107;with_reducible exact Hv (hH _ _).out)|(go_at_call 142;with_reducible exact Hv (hA _ _).out))))
     refine wpQuiet_nil ?_
     intro w1 hw1
     replace hw1:=ac hw1
     go_wp2
     go_ret
     exact ⟨ad (by rw [hv.out];simp [e2.out]),hfin.out _ hw1⟩
   ·have e3:(a==vh)=false:=beq_eq_false_iff_ne.2 e1
    replace e1:=aa e1
    go_enter func106,ntmps106
    go_wp2_with fail
    refine cR ?_
    repeat (any_goals (first|go_big_quiet_step (first|(go_at_call 107;with_reducible exact Hv (hF _ _).out)|(go_at_call 107;with_reducible exact Hv (hH _ _).out)|(go_at_call 142;with_reducible exact Hv (hA _ _).out))|quiet_step (first|(go_at_call 107;with_reducible exact Hv (hF _ _).out)|(go_at_call 107;with_reducible exact Hv (hH _ _).out)|(go_at_call 142;with_reducible exact Hv (hA _ _).out))))
    refine wpQuiet_nil ?_
    intro w1 hw1
    replace hw1:=ac hw1
    go_wp2
    go_ret
    exact ⟨ad (by rw [hv.out];simp [e1.out]),hfin.out _ hw1⟩
theorem Sl.pat {w:World} {B:Nat} {A:Option Addr} {xs:List Pt} (h:Sl 4 gT w B A xs) {i:Nat} (hi:i<xs.length):∃ b o,A=some ⟨b,o,none⟩∧b<B∧w.cell? ⟨b,o+i*4,none⟩=some (.int .u64 xs[i].vh)∧w.cell? ⟨b,o+i*4+1,none⟩=some (.int .u64 xs[i].vl)∧w.cell? ⟨b,o+i*4+2,none⟩=some (.int .u64 xs[i].mh)∧w.cell? ⟨b,o+i*4+3,none⟩=some (.int .u64 xs[i].ml)∧(aW xs[i].vh∧aW xs[i].vl∧aW xs[i].mh∧aW xs[i].ml):=by
 obtain ⟨b,o,ecs,hA,hb,hl,hc,rfl,h1⟩:=h.2 i xs[i] (HA hi)
 exact ⟨b,o,hA,hb,hc 0 _ rfl,hc 1 _ rfl,hc 2 _ rfl,hc 3 _ rfl,h1⟩
theorem pC (A1 A2 A3 A4 A5 A6 A7 A8 A9 A10 A11 A12:Option Addr) (p:Lp) (c1 c2 c3 c4 c5 c6 c7 c8 c9 c10 c11 c12:Nat) (s:j8) (P1 P2 P3:Option Addr) (d1 d2 d3:Nat) (w:World) (h:cz w w.heap.size A1 A2 A3 A4 A5 A6 A7 A8 A9 A10 A11 A12 p) (h1:Sl 1 bc w w.heap.size P1 s.takes) (h2:Sl 1 pT w w.heap.size P2 s.keys) (h3:Sl 2 vM w w.heap.size P3 s.brs):
  Calls prog 51 #[.agg (aO A1 A2 A3 A4 A5 A6 A7 A8 A9 A10 A11 A12 p c1 c2 c3 c4 c5 c6 c7 c8 c9 c10 c11 c12),.agg #[.slice P1 s.takes.length d1,.slice P2 s.keys.length d2,.slice P3 s.brs.length d3,.int .i64 s.to]] w fun e w'=>e=.returned (.bool (el p s))∧Below w.heap.size w w':=by
 unfold aO
 obtain ⟨takes,ks,brs,tt⟩:=s
 simp only at h1 h2 h3 ⊢
 have lt1:=h1.len
 have lt2:=h2.len
 have lt3:=h3.len
 have ls:=h.steps.len
 have lh:=h.heads.len
 obtain ⟨wz,hwz,hsz,hbz,hcz,-⟩:=af w (aO A1 A2 A3 A4 A5 A6 A7 A8 A9 A10 A11 A12 p c1 c2 c3 c4 c5 c6 c7 c8 c9 c10 c11 c12) 33
 obtain ⟨wa,hwa,hsa,hba,hca,-⟩:=af wz #[.slice P1 takes.length d1,.slice P2 ks.length d2,.slice P3 brs.length d3,.int .i64 tt] 79
 have k0:w.heap.size<wz.heap.size:=by omega
 obtain ⟨y0,y1,y2,y3,y4,y5,y6,y7,y8,y9,y10,y11⟩:=aF fun i=>(hba.cell (p:=⟨w.heap.size,i,none⟩) k0).trans (hcz i)
 rw [hsz] at hca
 have x0:wa.cell? ⟨w.heap.size+1,0,none⟩=some (.slice P1 takes.length d1):=hca 0
 have x1:wa.cell? ⟨w.heap.size+1,1,none⟩=some (.slice P2 ks.length d2):=hca 1
 have x2:wa.cell? ⟨w.heap.size+1,2,none⟩=some (.slice P3 brs.length d3):=hca 2
 have x3:wa.cell? ⟨w.heap.size+1,3,none⟩=some (.int .i64 tt):=hca 3
 have hl1:w.heap.size<wa.heap.size:=by omega
 have hl2:w.heap.size+1<wa.heap.size:=by omega
 have hw:Below w.heap.size w wa:=hbz.trans (hba.mono (by omega))
 have hP:=aa ((h.below hw).more (B':=wa.heap.size) hw.size)
 have hT:=aa ((h1.below ah hw).more (B':=wa.heap.size) ah hw.size)
 have hK:=aa ((h2.below aV hw).more (B':=wa.heap.size) aV hw.size)
 have hB:=aa ((h3.below bZ hw).more (B':=wa.heap.size) bZ hw.size)
 have hv:=aa (show el p ⟨takes,ks,brs,tt⟩=(decide (takes.length≤8)&&decide (ks.length≤4)&&gd p tt&&ar (aZ (dC p.heads.length) takes) takes.length&&(if ks.length=0 then decide (brs.length=0) else
  decide (tt=0)&&decide (1≤brs.length)&&decide (brs.length≤16)&&ar (kX p ⟨takes,ks,brs,tt⟩) ks.length)) from rfl)
 replace hw:=aa hw
 replace hsa:=aa hsa
 clear hca hcz hba hbz h h1 h2 h3
 go_enter func51,ntmps51
 by_cases a1:takes.length≤8
 focus
  have a1z:¬(8:Int)<(takes.length:Int):=by omega
  rw [decide_eq_true a1,Hx] at hv
  by_cases a2:ks.length≤4
  focus
   have a2z:¬(4:Int)<(ks.length:Int):=by omega
   rw [decide_eq_true a2,Hx] at hv
   by_cases a3:tt< -2
   rw [show gd p tt=false from by unfold gd;rw [decide_eq_false (show ¬(-2:Int)≤tt by omega)];rfl,Hu,Hu] at hv
   rotate_right
   focus
    by_cases a4:(p.steps.length:Int)≤tt
    rw [show gd p tt=false from by unfold gd;rw [decide_eq_false (show ¬tt<(p.steps.length:Int) by omega),Bool.and_false],Hu,Hu] at hv
    rotate_right
    focus
     rw [show gd p tt=true from by unfold gd;rw [decide_eq_true (show (-2:Int)≤tt by omega),decide_eq_true (show tt<(p.steps.length:Int) by omega)];rfl,Hx] at hv
     go_wp2
     go_loopw [5] (fun i wr=>∃ k:Nat,k≤takes.length∧i=.int .i64 k∧Hid (ar (aZ (dC p.heads.length) takes) k=true)∧Hid (Below wa.heap.size wa wr)) (fun i _=>takes.length-(intOf i).toNat)
     case atStart=>exact ⟨0,Hz _,rfl,aa rfl,aa (Hs _ _)⟩
     case round=>
      obtain ⟨k,hk,rfl,hcn,hG⟩:=hrel
      have kbr:=ae hG.out
      have hzr:=hG.out.size
      have r0:=(kbr.1 _ 0 hl1).trans y0
      have r2:=(kbr.1 _ 2 hl1).trans y2
      have q0:=(kbr.1 _ 0 hl2).trans x0
      have q1:=(kbr.1 _ 1 hl2).trans x1
      have q2:=(kbr.1 _ 2 hl2).trans x2
      have q3:=(kbr.1 _ 3 hl2).trans x3
      by_cases hlt:k<takes.length
      ·have hkz:(k:Int)<(takes.length:Int):=by omega
       obtain ⟨b,o,hA1,hb,hcell⟩:=hT.out.int hlt
       subst hA1
       have n0:=(kbr.1 _ (o+k) hb).trans hcell
       have hN:=aa (fun (g:dC p.heads.length takes[k]=true)=>show ar (aZ (dC p.heads.length) takes) (k+1)=true from by rw [ar,hcn.out,am _ hlt,g];rfl)
       have hlo:=aa (fun (g:dC p.heads.length takes[k]=false)=>show ar (aZ (dC p.heads.length) takes) takes.length=false from ba hlt (by rw [am _ hlt];exact g))
       have hwd:=aa (fun m=>hw.out.trans ((hG.out.trans (au ((Hs wr.heap.size wr).mono hzr) m)).mono hw.out.size))
       have hgd:=aa (fun m=>hG.out.trans (au ((Hs wr.heap.size wr).mono hzr) m))
       generalize takes[k]=x at hcell n0 hN hlo
       clear kbr x0 x1 x2 x3 y0 y1 y2 y3 y4 y5 y6 y7 y8 y9 y10 y11 hcell
       by_cases c1:x<0
       ·have c1z:decide (x<0)=true:=decide_eq_true c1
        rw [hlo.out (bS (by omega)),Hu] at hv
        go_wp2_with fail
        go_quiet (fail)
        go_wp2
        go_ret
        exact ⟨ad hv.out.symm,hwd.out _⟩
       ·have c1z:decide (x<0)=false:=decide_eq_false c1
        by_cases c2:(p.heads.length:Int)≤x
        ·have c2z:decide ((p.heads.length:Int)≤x)=true:=decide_eq_true c2
         rw [hlo.out (bS (by omega)),Hu] at hv
         go_wp2_with fail
         go_quiet (fail)
         go_wp2
         go_ret
         exact ⟨ad hv.out.symm,hwd.out _⟩
        ·have c2z:decide ((p.heads.length:Int)≤x)=false:=decide_eq_false c2
         replace hN:=aa (hN.out (by unfold dC;rw [decide_eq_true (show 0≤x by omega),decide_eq_true (show x<(p.heads.length:Int) by omega)];rfl))
         go_wp2_with fail
         go_quiet (fail)
         go_wp2
         go_roundw
         case rel=>exact ⟨k+1,by omega,by go_num,hN,aa (hgd.out _)⟩
         case measure=>simp [intOf];omega
      ·have hke:k=takes.length:=by omega
       subst hke
       rw [hcn.out,Hx] at hv
       obtain ⟨w2,rfl⟩:∃ w2:World,w2=wr:=⟨_,rfl⟩
       have r1:=(kbr.1 _ 1 hl1).trans y1
       have r3:=(kbr.1 _ 3 hl1).trans y3
       have r4:=(kbr.1 _ 4 hl1).trans y4
       have r5:=(kbr.1 _ 5 hl1).trans y5
       have r6:=(kbr.1 _ 6 hl1).trans y6
       have r7:=(kbr.1 _ 7 hl1).trans y7
       have r8:=(kbr.1 _ 8 hl1).trans y8
       have r9:=(kbr.1 _ 9 hl1).trans y9
       have r10:=(kbr.1 _ 10 hl1).trans y10
       have r11:=(kbr.1 _ 11 hl1).trans y11
       have m1:=Hr hl1 hzr
       have m2:=Hr hl2 hzr
       have hP2:=aa ((hP.out.below hG.out).more (B':=w2.heap.size) hzr)
       have hK2:=aa ((hK.out.below aV hG.out).more (B':=w2.heap.size) aV hzr)
       have hB2:=aa ((hB.out.below bZ hG.out).more (B':=w2.heap.size) bZ hzr)
       have hw2:=aa (hw.out.trans (hG.out.mono hw.out.size))
       clear kbr x0 x1 x2 x3 y0 y1 y2 y3 y4 y5 y6 y7 y8 y9 y10 y11 hP hT hK hB hG hcn
       by_cases b0:ks.length=0
       ·have b0z:((ks.length:Int)==0)=true:=by rw [beq_iff_eq];omega
        rw [if_pos b0] at hv
        by_cases b1:brs.length=0
        ·have b1z:((brs.length:Int)==0)=true:=by rw [beq_iff_eq];omega
         rw [decide_eq_true b1] at hv
         replace b0:=aa b0
         replace b1:=aa b1
         go_wp2
         go_ret
         exact ⟨ad hv.out.symm,hw2.out⟩
        ·have b1z:((brs.length:Int)==0)=false:=by rw [beq_eq_false_iff_ne];omega
         rw [decide_eq_false b1] at hv
         replace b0:=aa b0
         go_wp2
         go_ret
         exact ⟨ad hv.out.symm,hw2.out⟩
       ·have b0z:((ks.length:Int)==0)=false:=by rw [beq_eq_false_iff_ne];omega
        rw [if_neg b0] at hv
        by_cases b2:tt=0
        ·rw [decide_eq_true b2,Hx] at hv
         subst b2
         by_cases b3:1≤brs.length
         ·rw [decide_eq_true b3,Hx] at hv
          have b3z:¬(brs.length:Int)<1:=by omega
          by_cases b4:brs.length≤16
          ·rw [decide_eq_true b4,Hx] at hv
           have b4z:¬(16:Int)<(brs.length:Int):=by omega
           have hkey:=aa (fun (k:Nat) (hlt:k<ks.length)=>show kX p ⟨takes,ks,brs,0⟩ k=(match iJ p (-1) ks[k] with
            |none=>false
            |some w=>ar (aZ (B7 p ks.length k w) brs) brs.length) from am (fun c=>match iJ p (-1) c with
            |none=>false
            |some w=>ar (aZ (B7 p ks.length k w) brs) brs.length) hlt)
           generalize kX p ⟨takes,ks,brs,0⟩=KR at hv hkey
           go_wp2
           go_loopw [6,7,8,9,10] (fun ki _ _ _ _ wr=>∃ k:Nat,k≤ks.length∧ki=.int .i64 k∧Hid (ar KR k=true)∧Hid (Below w2.heap.size w2 wr)) (fun ki _ _ _ _ _=>ks.length-(intOf ki).toNat)
           case atStart=>exact ⟨0,Hz _,rfl,aa rfl,aa (Hs _ _)⟩
           case round=>
            obtain ⟨k,hk,rfl,hcn,hG⟩:=hrel
            have kbr:=ae hG.out
            have hzr:=hG.out.size
            have hgo:=aa (fun W (hW:Below wr.heap.size wr W)=>hw2.out.trans ((hG.out.trans (hW.mono hzr)).mono hw2.out.size))
            by_cases hlt:k<ks.length
            ·have hkz:(k:Int)<(ks.length:Int):=by omega
             obtain ⟨b,o,A',c',hA1,hb,hcell,hE⟩:=hK2.out.code hlt
             subst hA1
             have hkv:=hkey.out k hlt
             have hX:∀ d os,Hid (Calls prog 55 #[.agg (aO A1 A2 A3 A4 A5 A6 A7 A8 A9 A10 A11 A12 p c1 c2 c3 c4 c5 c6 c7 c8 c9 c10 c11 c12),.int .i64 (-1),.slice A' ks[k].length c'] (HG (redrawn wr d) os) _):=fun d os=>aa (fY A1 A2 A3 A4 A5 A6 A7 A8 A9 A10 A11 A12 p c1 c2 c3 c4 c5 c6 c7 c8 c9 c10 c11 c12 (-1) ks[k] A' c' _ ((hP2.out.below (aU hG.out hzr d os)).more (Hw hzr (below_regrown wr d os).size)) ((hE.below bm (aU hG.out hzr d os)).more bm (Hw hzr (below_regrown wr d os).size)))
             have hN:=aa (fun (g:KR k=true)=>show ar KR (k+1)=true from by rw [ar,hcn.out,g];rfl)
             have hlo:=aa (fun (g:KR k=false)=>show ar KR ks.length=false from ba hlt g)
             unfold Cc at hX
             generalize ks[k]=ec at hcell hE hX hkv
             generalize iJ p (-1) ec=D at hX hkv
             have n0:=(kbr.1 _ (o+k) hb).trans hcell
             have u0:=(kbr.1 _ 0 m1).trans r0
             have u1:=(kbr.1 _ 1 m1).trans r1
             have u2:=(kbr.1 _ 2 m1).trans r2
             have u3:=(kbr.1 _ 3 m1).trans r3
             have u4:=(kbr.1 _ 4 m1).trans r4
             have u5:=(kbr.1 _ 5 m1).trans r5
             have u6:=(kbr.1 _ 6 m1).trans r6
             have u7:=(kbr.1 _ 7 m1).trans r7
             have u8:=(kbr.1 _ 8 m1).trans r8
             have u9:=(kbr.1 _ 9 m1).trans r9
             have u10:=(kbr.1 _ 10 m1).trans r10
             have u11:=(kbr.1 _ 11 m1).trans r11
             have v1:=(kbr.1 _ 1 m2).trans q1
             have hgw:=aS (show Below wr.heap.size wr wr from Hs _ _) (Ht _)
             have hB1:=Hr m1 hzr
             have hB2':=Hr m2 hzr
             have hB3:=Hr hb hzr
             clear kbr hcell hE
             cases D with
             |none=>
              simp only at hkv
              rw [hlo.out hkv] at hv
              replace hkv:=aa hkv
              simp only [Option.getD_none,Option.isSome_none] at hX
              go_wp2_with fail
              refine cR ?_
              repeat (any_goals (first|go_big_quiet_step ((go_at_call 55;with_reducible exact Hv (hX _ _).out))|quiet_step ((go_at_call 55;with_reducible exact Hv (hX _ _).out))))
              refine wpQuiet_nil ?_
              intro wq hwq
              replace hwq:=ac hwq
              go_wp2
              go_ret
              exact ⟨ad hv.out.symm,hgo.out _ hwq⟩
             |some y=>
              simp only at hkv
              simp only [If,Option.isSome_some] at hX
              replace hkv:=aa hkv
              go_wp2_with fail
              refine cR ?_
              repeat (any_goals (first|go_big_quiet_step ((go_at_call 55;with_reducible exact Hv (hX _ _).out))|quiet_step ((go_at_call 55;with_reducible exact Hv (hX _ _).out))))
              refine wpQuiet_nil ?_
              intro wq hwq
              replace hwq:=ac hwq
              have hGq:=aa (hG.out.trans (hwq.mono hzr))
              clear n0 u0 u1 u2 u3 u4 u5 u6 u7 u8 u9 u10 u11 v1 hgw hB1 hB2' hB3 hX hwq
              obtain ⟨w3,rfl⟩:∃ w3:World,w3=wr:=⟨_,rfl⟩
              have hzq:=hGq.out.size
              have kq:=ae hGq.out
              have s1:=(kq.1 _ 1 m2).trans q1
              have s2:=(kq.1 _ 2 m2).trans q2
              generalize hBR:aZ (B7 p ks.length k y) brs=BR at hkv
              go_wp2
              go_loopw [9,10] (fun ii _ wr=>∃ i:Nat,i≤brs.length∧ii=.int .i64 i∧Hid (ar BR i=true)∧Hid (Below w2.heap.size w2 wr)) (fun ii _ _=>brs.length-(intOf ii).toNat)
              case atStart=>exact ⟨0,Hz _,rfl,aa rfl,hGq⟩
              case round=>
               obtain ⟨i,hi,rfl,hci,hI⟩:=hrel
               have kbi:=ae hI.out
               have hzi:=hI.out.size
               have hgi:=aa (fun W (hW:Below wr.heap.size wr W)=>hw2.out.trans ((hI.out.trans (hW.mono hzi)).mono hw2.out.size))
               have hgI:=aa (fun W (hW:Below wr.heap.size wr W)=>hI.out.trans (hW.mono hzi))
               have t1:=(kbi.1 _ 1 m2).trans q1
               have t2:=(kbi.1 _ 2 m2).trans q2
               by_cases hlt2:i<brs.length
               ·have hiz:(i:Int)<(brs.length:Int):=by omega
                obtain ⟨g,og,PA,pc,hA3,hg,g0,g1,hs⟩:=hB2.out.br hlt2
                subst hA3
                have g0':=(kbi.1 _ (og+i*2) hg).trans g0
                have g1':=(kbi.1 _ (og+i*2+1) hg).trans g1
                have hbv:BR i=B7 p ks.length k y brs[i]:=by rw [←hBR,am _ hlt2]
                have hNi:=aa (fun (g:BR i=true)=>show ar BR (i+1)=true from by rw [ar,hci.out,g];rfl)
                have hli:=aa (fun (g:BR i=false)=>hlo.out (hkv.out.trans (ba hlt2 g)))
                have hs':=(hs.below ay hI.out).more ay hzi
                generalize brs[i]=br at g0 g1 g0' g1' hbv hs hs'
                obtain ⟨pats,bt⟩:=br
                simp only at g0 g1 g0' g1' hs hs'
                have hbe:BR i=(gd p bt&&decide (pats.length=ks.length)&&aZ (fun x=>dR x y) pats k):=hbv
                clear hbv g0 g1 hs
                have lp:=hs'.len
                obtain ⟨wn,hwn,hsn,hbn,hcl,-⟩:=af wr #[.slice PA pats.length pc,.int .i64 bt] 83
                have z0:wn.cell? ⟨wr.heap.size,0,none⟩=some (.slice PA pats.length pc):=hcl 0
                have z1:wn.cell? ⟨wr.heap.size,1,none⟩=some (.int .i64 bt):=hcl 1
                have z2:=(hbn.cell (p:=⟨w.heap.size,2,none⟩) (Hr m1 hzi)).trans ((kbi.1 _ 2 m1).trans r2)
                have z3:=(hbn.cell (p:=⟨w.heap.size+1,1,none⟩) (Hr m2 hzi)).trans t1
                have hgn:=aa (fun W (hW:Below wn.heap.size wn W)=>hgi.out W (hbn.trans (hW.mono hbn.size)))
                have hgN:=aa (fun W (hW:Below wn.heap.size wn W)=>hgI.out W (hbn.trans (hW.mono hbn.size)))
                have hs2:=aa (hs'.below ay hbn)
                replace hsn:=aa hsn
                clear hcl hbn hs' kbi
                by_cases c1:bt< -2
                ·rw [hli.out (by rw [hbe,show gd p bt=false from by unfold gd;rw [decide_eq_false (show ¬(-2:Int)≤bt by omega)];rfl,Hu,Hu])] at hv
                 replace hbe:=aa hbe
                 go_wp2
                 go_ret
                 exact ⟨ad hv.out.symm,hgn.out _ (Hs _ _)⟩
                ·by_cases c2:(p.steps.length:Int)≤bt
                 ·rw [hli.out (by rw [hbe,show gd p bt=false from by unfold gd;rw [decide_eq_false (show ¬bt<(p.steps.length:Int) by omega),Bool.and_false],Hu,Hu])] at hv
                  replace hbe:=aa hbe
                  go_wp2
                  go_ret
                  exact ⟨ad hv.out.symm,hgn.out _ (Hs _ _)⟩
                 ·rw [show gd p bt=true from by unfold gd;rw [decide_eq_true (show (-2:Int)≤bt by omega),decide_eq_true (show bt<(p.steps.length:Int) by omega)];rfl,Hx] at hbe
                  by_cases c3:pats.length=ks.length
                  ·have hkp:k<pats.length:=by omega
                   rw [decide_eq_true c3,Hx,am _ hkp] at hbe
                   have c3z:((pats.length:Int) !=(ks.length:Int))=false:=by rw [c3];exact bne_self_eq_false _
                   have hkpz:(k:Int)<(pats.length:Int):=by omega
                   replace c3:=aa c3
                   obtain ⟨g2,o2,hA4,hg2,e0,e1,e2,e3,hu⟩:=hs2.out.pat hkp
                   subst hA4
                   generalize pats[k]=x at e0 e1 e2 e3 hu hbe
                   have hM:=rD x y wn hu
                   obtain ⟨vh,vl,mh,ml⟩:=x
                   simp only at e0 e1 e2 e3 hM
                   generalize dR ⟨vh,vl,mh,ml⟩ y=z at hM hbe
                   replace hM:=aa hM
                   cases z with
                   |false=>
                    rw [hli.out hbe] at hv
                    replace hbe:=aa hbe
                    go_wp2_with (go_at_call 106;refine hM.out.mono ?_;rintro e w5 ⟨rfl,hb5⟩)
                    go_ret
                    exact ⟨ad hv.out.symm,hgn.out _ hb5⟩
                   |true=>
                    replace hNi:=aa (hNi.out hbe)
                    replace hbe:=aa hbe
                    go_wp2_with (go_at_call 106;refine hM.out.mono ?_;rintro e w5 ⟨rfl,hb5⟩)
                    go_roundw
                    case rel=>exact ⟨i+1,by omega,by go_num,hNi,aa (hgN.out _ hb5)⟩
                    case measure=>simp [intOf];omega
                  ·have c3z:((pats.length:Int) !=(ks.length:Int))=true:=by rw [bne_iff_ne];omega
                   rw [hli.out (by rw [hbe,decide_eq_false c3,Hu])] at hv
                   replace hbe:=aa hbe
                   replace c3:=aa c3
                   go_wp2
                   go_ret
                   exact ⟨ad hv.out.symm,hgn.out _ (Hs _ _)⟩
               ·have hie:i=brs.length:=by omega
                subst hie
                replace hN:=aa (hN.out (hkv.out.trans hci.out))
                go_wp2
                go_roundw
                case rel=>exact ⟨k+1,by omega,by go_num,hN,hI⟩
                case measure=>simp [intOf];omega
            ·have hke:k=ks.length:=by omega
             subst hke
             rw [hcn.out] at hv
             go_wp2
             go_ret
             exact ⟨ad hv.out.symm,hgo.out _ (Hs _ _)⟩
          ·rw [decide_eq_false b4,Hu] at hv
           have b4z:(16:Int)<(brs.length:Int):=by omega
           go_wp2
           go_ret
           exact ⟨ad hv.out.symm,hw2.out⟩
         ·rw [decide_eq_false b3,Hu,Hu] at hv
          have b3z:(brs.length:Int)<1:=by omega
          go_wp2
          go_ret
          exact ⟨ad hv.out.symm,hw2.out⟩
        ·rw [decide_eq_false b2,Hu,Hu,Hu] at hv
         have b2z:(tt !=0)=true:=by simpa using b2
         go_wp2
         go_ret
         exact ⟨ad hv.out.symm,hw2.out⟩
  rotate_right
  have a2z:(4:Int)<(ks.length:Int):=by omega
  rw [decide_eq_false a2,Hu,Hu,Hu] at hv
 rotate_right
 have a1z:(8:Int)<(takes.length:Int):=by omega
 rw [decide_eq_false a1,Hu,Hu,Hu,Hu] at hv
 all_goals
  go_wp2
  go_ret
  exact ⟨ad hv.out.symm,hw.out⟩
theorem uY {w:World} {a:Nat} {v0 v1 v2 v3 v4 v5:Value} (h:∀ i,w.cell? ⟨a,i,none⟩=(#[v0,v1,v2,v3,v4,v5]:Array Value)[i]?):
  w.cell? ⟨a,0,none⟩=some v0∧w.cell? ⟨a,1,none⟩=some v1∧w.cell? ⟨a,2,none⟩=some v2∧w.cell? ⟨a,3,none⟩=some v3∧w.cell? ⟨a,4,none⟩=some v4∧w.cell? ⟨a,5,none⟩=some v5:=⟨h 0,h 1,h 2,h 3,h 4,h 5⟩
theorem AH {p:Lp} {e:aA} (h:eC p.tabs e.tab=none):fq p e=false∧cg p e=false:=by unfold fq cg;rw [h];exact ⟨rfl,rfl⟩
theorem CT {p:Lp} {e:aA} {t:fJ} (h:eC p.tabs e.tab=some t):fq p e=(g9 e&&(decide (e.pats.length=t.keys.length)&&(dH p t.acts e.run&&decide (dn (fun i x n=>lF (qp p t i) (im t i) x n) 0 e.pats 0=some e.len)))):=by unfold fq;rw [h]
theorem CU {p:Lp} {e:aA} {t:fJ} (h:eC p.tabs e.tab=some t):cg p e=(g9 e&&(decide (e.pats.length=t.keys.length)&&(dH p t.acts e.run&&decide (dn (fun i x n=>vT (DT p t i) (im t i) x n) 0 e.pats 0=some e.len)))):=by unfold cg;rw [h]
theorem Ea {p:Lp} {t:fJ} {i:Nat} (h:i<t.keys.length):qp p t i=(eO p (-1) t.keys[i]).getD 0:=by unfold qp;rw [HA h];rfl
theorem Eb {p:Lp} {t:fJ} {i:Nat} (h:i<t.keys.length):DT p t i=(iJ p (-1) t.keys[i]).getD 0:=by unfold DT;rw [HA h];rfl
theorem tQ {t:fJ} {i:Nat} (h:i<t.kinds.length):im t i=t.kinds[i]:=by unfold im;rw [Iq,HA h];rfl
theorem oy {e:aA} (h:¬0≤e.prio):g9 e=false:=by unfold g9;rw [decide_eq_false h];rfl
theorem oz {e:aA} (h:¬e.prio≤65536):g9 e=false:=by unfold g9;rw [decide_eq_false h,Bool.and_false]
theorem oA {e:aA} (h:0≤e.prio) (h2:e.prio≤65536):g9 e=true:=by unfold g9;rw [decide_eq_true h,decide_eq_true h2];rfl
section
attribute [local go_sem] run_panic_iface
attribute [local go_sem ↓] cH
theorem mw {ps:List Int} {f:Nat} {acc xs:List (Int×Int)} {ts r:List Tk} (h:ic ps (f+1) acc ts=some (xs,r)):(ag ts).kind=2∧acc.length<ps.length∧eT (ag ts) (ps.getD acc.length 0)=true∧(if cD [44] (ai ts)=true then ic ps f (acc++ [Dx (ag ts).n]) (ai (ai ts))=some (xs,r) else acc++ [Dx (ag ts).n]=xs∧ai ts=r):=by
 unfold ic nn at h
 by_cases hk:(ag ts).kind=2
 ·rw [if_pos hk] at h
  simp only [HP] at h
  split at h
  ·rename_i hc
   refine ⟨hk,hc.1,hc.2,?_⟩
   split at h
   ·rename_i hi
    rw [if_pos hi];exact h
   ·rename_i hi
    rw [if_neg hi];cases h;exact ⟨rfl,rfl⟩
  ·cases h
 ·rw [if_neg hk] at h;cases h
theorem Ec {w:World} {g cap:Nat} {A:Option Addr} {l l':List Tk} {V:Array Value} {ps:List Int} {xs:List (Int×Int)} (h:bq w g l V) (hP:Sl 1 bc w g A ps) (hw:∀ y∈ps,aj y=true) (hps:ps.length≤1000) (ho:tp ps l=some (xs,l')):
  Calls prog 195 #[.pointer (some ⟨g,0,none⟩),.slice A ps.length cap] w fun e w'=>∃ v,e=.returned v∧nr w' w.heap.size v xs∧aE g w w'∧bq w' g l' V:=by
 have lt:=h.lt
 unfold tp jR at ho
 by_cases h40:cD [40] l=true
 ·rw [if_pos h40] at ho
  simp only [HP] at ho
  obtain ⟨l2,hb0,h41,hlen,rfl⟩:∃ l2,(if cD [41] (ai l)=true then some ([],ai l) else ic ps ((ai l).length+1) [] (ai l))=some (xs,l2)∧cD [41] l2=true∧xs.length=ps.length∧l'=ai l2:=by
   cases hb:(if cD [41] (ai l)=true then some ([],ai l) else ic ps ((ai l).length+1) [] (ai l)) with
   |none=>rw [hb] at ho;cases ho
   |some y=>
    rw [hb] at ho
    simp only [HP] at ho
    split at ho
    ·rename_i hc
     cases ho
     exact ⟨y.2,rfl,hc.1,hc.2,rfl⟩
    ·cases ho
  clear ho
  have hW0:=aa (oe ⟨#[40]⟩ h h40)
  have hI0:=aa (fun (W:World) (hW:bq W g (ai l) V)=>tB ⟨#[41]⟩ hW)
  have hz0:∀ W,bq W g l2 V→Hid (Calls prog 192 #[.pointer (some ⟨g,0,none⟩),.string ⟨#[41]⟩] W fun e w'=>e=.returned (.bool true)∧Below W.heap.size W w'):=fun W hW=>aa (by have:=tB ⟨#[41]⟩ hW;rw [show cD (⟨#[41]⟩:ByteArray).data.toList l2=true from h41] at this;exact this)
  replace hz0:=aa hz0
  have hW1:=aa (fun (W:World) (hW:bq W g l2 V)=>oe ⟨#[41]⟩ hW h41)
  have hPk:=aa (fun (W:World) (hW:aE g w W)=>(hP.keep ah fun q hq=>by obtain ⟨qb,qi,qn⟩:=q;exact World.cell?_of_block (hW.blk (HW hq lt) (Nat.ne_of_lt hq)):Sl 1 bc W g A ps))
  replace hb0:=aa hb0
  replace h41:=aa h41
  replace hlen:=aa hlen
  replace hw:=aa hw
  clear h hP h40
  go_enter func195,ntmps195
  go_upto_region 2 with (go_at_call 189;refine hW0.out.mono ?_;rintro e w1 ⟨rfl,hG1,hR1⟩)
  have hI1:=aa (hI0.out w1 hR1)
  have hR1':=aa hR1
  have hG1':=aa hG1
  clear hI0 hW0 hG1
  obtain ⟨b0,hb1⟩:∃ b,cD [41] (ai l)=b:=⟨_,rfl⟩
  rw [hb1] at hI1 hb0
  replace hb1:=aa hb1
  go_wp2_with (go_at_call 192;refine hI1.out.mono ?_;rintro e w2 ⟨rfl,hb2⟩)
  have hR2:=aa (hR1.below hb2 hR1.lt)
  have hG2:=aa (hG1'.out.trans (aE.of hb2))
  go_loopw [4,5,6] (fun v4 v5 _ wr=>∃ (more:Bool) (acc:List (Int×Int)) (l1:List Tk),v5=.bool more∧Hid (nr wr w.heap.size v4 acc)∧Hid (bq wr g l1 V)∧Hid (aE g w wr)∧Hid (acc.length≤ps.length)∧Hid (more=true→∃ f,ic ps f acc l1=some (xs,l2))∧Hid (more=false→acc=xs∧l1=l2)) (fun _ _ _ wr=>qZ g wr)
  case atStart=>
   refine ⟨!b0,[],ai l,rfl,aa ⟨fun x hx=>by simp at hx,World.ownsRow_nil _ _ _ _⟩,hR2,hG2,aa (Hz _),aa (fun hq=> ?_),aa (fun hq=> ?_)⟩
   ·have:b0=false:=by simpa using hq
    subst this
    exact ⟨_,hb0.out⟩
   ·have:b0=true:=by simpa using hq
    subst this
    have:=hb0.out
    simp only [if_true] at this
    injection this with this
    injection this with e1 e2
    exact ⟨e1,e2⟩
  case round=>
   clear hR2 hG2 hb2 hR1' hG1' hR1 hI1 hb0 hb1
   obtain ⟨more,acc,l1,rfl,hN,hR,hG,hal,hmt,hmf⟩:=hrel
   have hl0:=hR.out.left
   obtain ⟨A4,c4,hA4⟩:=aR hN.out.2
   subst hA4
   cases more with
   |false=>
    obtain ⟨rfl,rfl⟩:=hmf.out rfl
    have hI2:=hz0.out _ hR.out
    clear hmt hmf
    go_upto_region 12 with (go_at_call 192;refine hI2.out.mono ?_;rintro e w3 ⟨rfl,hb3⟩)
    have hR3:=aa (hR.out.below hb3 hR.out.lt)
    have hG3:=aa (hG.out.trans (aE.of hb3))
    have hN3:=aa (show nr w3 w.heap.size (.slice A4 acc.length c4) acc from ⟨hN.out.1,bd hN.out.2 (aE.of (g:=g) hb3) lt⟩)
    clear hb3 hR hG hN hI2
    obtain ⟨b,o,cap',lt',bg,pos,le,ml,d0,f0,k0,k1,k2,k3,k4,k5⟩:=hR3.out.open_
    have hbl:b<w3.heap.size:=by omega
    have lz:(0:Int)<(l1.length:Int):=by omega
    have hA:=aa (fun (W:World)=>bi (ag l1) 13 W)
    generalize ag l1=t at k0 k1 k2 k3 k4 k5 hA
    obtain ⟨k,s,wd,m,pl⟩:=t
    unfold iF at hA
    simp only at k0 k1 k2 k3 k4 k5 hA
    generalize (⟨s.toArray⟩:ByteArray)=S at k1 hA
    generalize ((m / 18446744073709551616:Nat):Int)=hi at k3 hA
    generalize ((m % 18446744073709551616:Nat):Int)=lo at k4 hA
    have hle:((acc.length:Int)==(ps.length:Int))=true:=by rw [beq_iff_eq,hlen.out]
    go_upto_region 13 with (go_at_call 163;refine (hA.out _).mono ?_;rintro e w4 ⟨rfl,hb4⟩)
    have hR4:=aa (hR3.out.below hb4 hR3.out.lt)
    have hG4:=aa (hG3.out.trans (aE.of hb4))
    have hN4:=aa (show nr w4 w.heap.size (.slice A4 acc.length c4) acc from ⟨hN3.out.1,bd hN3.out.2 (aE.of (g:=g) hb4) lt⟩)
    have hW2:=aa (hW1.out w4 hR4.out)
    clear hb4 hR3 hG3 hN3 k0 k1 k2 k3 k4 k5 d0 f0
    go_wp2_with (go_at_call 189;refine hW2.out.mono ?_;rintro e w5 ⟨rfl,hG5,hR5⟩)
    go_ret
    exact ⟨_,rfl,⟨hN4.out.1,bd hN4.out.2 hG5 lt⟩,hG4.out.trans hG5,hR5⟩
   |true=>
    obtain ⟨f,hf⟩:=hmt.out rfl
    clear hmt hmf
    cases f with
    |zero=>cases hf
    |succ f=>
     obtain ⟨hk,hac,hgo,hnx⟩:=mw hf
     have hlt1:=gP hR.out.1 (by omega)
     have hle2:=bp (ai l1)
     have hNm:=aa (fW hR.out hk)
     have hwy:aj (ps.getD acc.length 0)=true:=hw.out _ (by rw [Iq,HA hac];exact HE hac)
     have hA:=aa (fun (W:World)=>bi (ag l1) 5 W)
     have hp128:=nY hwy
     have hn128:(ag l1).n<2 ^ 128:=Hr (fC hgo) hp128
     have hGo:=aa (fun (W:World)=>qX (ag l1) _ W hgo hn128)
     obtain ⟨yv,hyv⟩:∃ y,ps.getD acc.length 0=y:=⟨_,rfl⟩
     have hyc:∃ b o,A=some ⟨b,o,none⟩∧b<g∧∀ W,aE g w W→W.cell? ⟨b,o+acc.length,none⟩=some (.int .i64 yv):=by
      obtain ⟨b,o,hA1,hb1,hc1⟩:=(hPk.out w (aE.refl g w)).int hac
      refine ⟨b,o,hA1,hb1,fun W hW=> ?_⟩
      rw [World.cell?_of_block (hW.blk (HW hb1 lt) (Nat.ne_of_lt hb1)),hc1,←hyv,Iq,HA hac]
      rfl
     obtain ⟨pb,po,rfl,hpb,hpc⟩:=hyc
     rw [hyv] at hGo
     have hnu:=aa (EZ (ag l1).n hn128)
     have hnux:=aa (show Dx (ag l1).n=((((ag l1).n / 18446744073709551616:Nat):Int),(((ag l1).n % 18446744073709551616:Nat):Int)) from rfl)
     have hacz:(acc.length:Int)<(ps.length:Int):=by omega
     have dac:decide ((acc.length:Int)<(ps.length:Int))=true:=decide_eq_true hacz
     replace hnx:=aa hnx
     replace hpc:=aa hpc
     generalize Dx (ag l1).n=nu at hnu hnux hnx
     clear hgo hwy hp128 hn128 hf hk hyv
     generalize ag l1=t at hNm hA hGo hnux
     obtain ⟨k,s,wd,m,pl⟩:=t
     unfold iF at hNm hA hGo
     simp only at hNm hA hGo hnux
     generalize (⟨s.toArray⟩:ByteArray)=S at hNm hA hGo
     generalize ((m / 18446744073709551616:Nat):Int)=hi at hNm hA hGo hnux
     generalize ((m % 18446744073709551616:Nat):Int)=lo at hNm hA hGo hnux
     go_upto_region 5 with (go_at_call 194;refine hNm.out.mono ?_;rintro e w3 ⟨rfl,hG3,hR3⟩;obtain ⟨w4,hw4,hb4,hs4,hl4,x0,x1,x2,x3,x4,x5⟩:=bL w3 k wd hi lo pl S)
     have hT4:=aa (show eY w4 w3.heap.size k S wd hi lo pl from by rw [←hw4];exact cK w3 _ _ _ _ _ _)
     have hR4:=aa (hR3.below hb4.out hR3.lt)
     have hG4:=aa (hG3.trans (aE.of (g:=g) hb4.out))
     have hrg:g<w3.heap.size:=hR3.lt
     have hsw3:w.heap.size≤w3.heap.size:=Hw hG.out.size hG3.size
     generalize w3.heap.size=r at*
     clear hG3 hR3 hw4 hb4 hs4
     go_upto_region 6 with (go_at_call 163;refine (hA.out _).mono ?_;rintro e w5 ⟨rfl,hb5⟩)
     have hT5:=aa (hT4.out.grg (g:=g) (aE.of hb5) (by omega))
     have hR5:=aa (hR4.out.below hb5 hR4.out.lt)
     have hG5:=aa (hG4.out.trans (aE.of (g:=g) hb5))
     clear x0 x1 x2 x3 x4 x5 hb5 hT4 hR4 hG4
     obtain ⟨x0,x1,x2,x3,x4,x5⟩:=hT5.out.cells
     have hl5:=hT5.out.lt
     have p0:=hpc.out w5 (hG.out.trans hG5.out)
     have hpl5:pb<w5.heap.size:=by omega
     have hgw:=aS (show Below w5.heap.size w5 w5 from Hs _ _) (Ht _)
     go_wp2_with fail
     refine cR ?_
     repeat (any_goals (first|go_big_quiet_step ((go_at_call 213;with_reducible exact Hv (hGo.out _)))|quiet_step ((go_at_call 213;with_reducible exact Hv (hGo.out _)))))
     refine wpQuiet_nil ?_
     intro w6 hw6
     replace hw6:=ac hw6
     have hT6:=aa (hT5.out.grg (g:=g) (aE.of hw6) (by omega))
     have hR6:=aa (hR5.out.below hw6 hR5.out.lt)
     have hG6:=aa (hG5.out.trans (aE.of (g:=g) hw6))
     have hN6:=aa (show nr w6 w.heap.size (.slice A4 acc.length c4) acc from ⟨hN.out.1,bd hN.out.2 hG6.out lt⟩)
     clear x0 x1 x2 x3 x4 x5 hl5 p0 hpl5 hgw hT5 hR5 hG5 hw6
     obtain ⟨-,-,-,x3,x4,-⟩:=hT6.out.cells
     have hl6:=hT6.out.lt
     obtain ⟨v',w7,hrun,hN7,hb7⟩:=wZ nu hnu.out hN6.out (Hw hG.out.size hG6.out.size) (by omega)
     rw [hnux.out] at hrun
     simp only at hrun
     obtain ⟨A7,c7,hA7⟩:∃ A c,v'=.slice A (acc.length+1) c:=by obtain ⟨A,c,h⟩:=aR hN7.2;exact ⟨A,c,by rw [h];simp⟩
     subst hA7
     replace hN7:=aa hN7
     have hR7:=aa (hR6.out.below hb7 lt)
     have hG7:=aa (show aE g w w7 from ⟨hb7.os.trans (hG.out.trans hG6.out).os,hb7.tape.trans (hG.out.trans hG6.out).tape,hb7.output.trans (hG.out.trans hG6.out).output,Hw (hG.out.trans hG6.out).size hb7.size,fun q hq hn=>(hb7.block q hq).trans ((hG.out.trans hG6.out).block q hq hn)⟩)
     have hI7:=aa (tB ⟨#[44]⟩ hR7.out)
     clear hR6 hG6 hN6 hT6 hb7 hNm hA hGo
     cases hi44:cD [44] (ai l1) with
     |true=>
      rw [hi44] at hI7
      have hnx1:=hnx.out
      rw [if_pos hi44] at hnx1
      have hNt:=aa (fun (W:World) (hW:bq W g (ai l1) V)=>iY hW)
      generalize ag (ai l1)=t2 at hNt
      obtain ⟨k2,s2,wd2,m2,pl2⟩:=t2
      unfold iF at hNt
      simp only at hNt
      generalize (⟨s2.toArray⟩:ByteArray)=S2 at hNt
      generalize ((m2 / 18446744073709551616:Nat):Int)=hi2 at hNt
      generalize ((m2 % 18446744073709551616:Nat):Int)=lo2 at hNt
      replace hnx1:=aa hnx1
      clear hnx hi44
      go_upto_region 10 with (go_at_call 192;refine hI7.out.mono ?_;rintro e w8 ⟨rfl,hb8⟩)
      have hR8:=hR7.out.below hb8 hR7.out.lt
      have hG8:=aa (hG7.out.trans (aE.of (g:=g) hb8))
      have hN8:=aa (show nr w8 w.heap.size (.slice A7 (acc.length+1) c7) (acc++ [nu]) from ⟨hN7.out.1,bd hN7.out.2 (aE.of (g:=g) hb8) lt⟩)
      have hNt8:=aa (hNt.out w8 hR8)
      clear hb8 hR7 hG7 hN7 hI7 hNt hR8
      go_wp2_with (go_at_call 187;refine hNt8.out.mono ?_;rintro e w9 ⟨rfl,hG9,hR9⟩)
      have hl9:=hR9.left
      go_roundw
      case rel=>exact ⟨true,acc++ [nu],ai (ai l1),rfl,aa ⟨hN8.out.1,bd hN8.out.2 hG9 lt⟩,aa hR9,aa (hG8.out.trans hG9),aa (by rw [HM,List.length_singleton];omega),aa (fun _=>⟨f,hnx1.out⟩),aa (fun hq=>by cases hq)⟩
      case measure=>rw [hl0,hl9];omega
     |false=>
      rw [hi44] at hI7
      have hnx1:=hnx.out
      rw [if_neg (by rw [hi44];decide)] at hnx1
      replace hnx1:=aa hnx1
      clear hnx hi44
      go_wp2_with (go_at_call 192;refine hI7.out.mono ?_;rintro e w8 ⟨rfl,hb8⟩)
      have hR8:=hR7.out.below hb8 hR7.out.lt
      have hl8:=hR8.left
      go_roundw
      case rel=>exact ⟨false,acc++ [nu],ai l1,rfl,aa ⟨hN7.out.1,bd hN7.out.2 (aE.of (g:=g) hb8) lt⟩,aa hR8,aa (hG7.out.trans (aE.of (g:=g) hb8)),aa (by rw [HM,List.length_singleton];omega),aa (fun hq=>by cases hq),aa (fun _=>hnx1.out)⟩
      case measure=>rw [hl0,hl8];omega
 ·rw [if_neg h40] at ho;cases ho
end
end Go.Proofs.YtijcdfdbkffiaaaGreatDoor

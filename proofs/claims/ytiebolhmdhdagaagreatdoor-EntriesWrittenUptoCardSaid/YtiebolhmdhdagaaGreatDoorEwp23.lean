import Derived.Test.YtiebolhmdhdagaaGreatDoorEwp21
import Derived.Test.YtiebolhmdhdagaaGreatDoorEwp22
import Derived.Test.YtiebolhmdhdagaaGreatDoorEwp16
set_option linter.all false
set_option maxHeartbeats 8000000
set_option maxRecDepth 100000
open Go.Proofs.Tryz
namespace Go.Proofs.YtiebolhmdhdagaaGreatDoor
open _root_.Nat renaming lt_of_lt_of_le→He, le_refl→Hh, le_trans→Hj, zero_le→Hm, le_of_lt→Hs, lt_trans→HB, ne_of_lt→HW
open _root_.Go.RowKit.Below renaming refl→Hf
open _root_.Bool renaming false_and→Hg, true_and→Hk
open _root_.Go.Calls renaming regrown_of→Hi
open _root_.List renaming getElem?_eq_getElem→Hn, getElem_mem→Ho, length_append→Hu, take_succ_eq_append_getElem→HR, getD_eq_getElem?_getD→HT, take_length→HZ, length_singleton→Ie
open _root_.Option renaming bind_some→Hq, getD_some→H9
open _root_.Go.Sort renaming grow→Ht
open Go.RowKit
theorem Sl.pat {w:World} {B:Nat} {A:Option Addr} {xs:List Pt} (h:Sl 4 mR w B A xs) {i:Nat} (hi:i<xs.length):∃ b o,A=some ⟨b,o,none⟩∧b<B∧w.cell? ⟨b,o+i*4,none⟩=some (.int .u64 xs[i].vh)∧w.cell? ⟨b,o+i*4+1,none⟩=some (.int .u64 xs[i].vl)∧w.cell? ⟨b,o+i*4+2,none⟩=some (.int .u64 xs[i].mh)∧w.cell? ⟨b,o+i*4+3,none⟩=some (.int .u64 xs[i].ml)∧(aI xs[i].vh∧aI xs[i].vl∧aI xs[i].mh∧aI xs[i].ml):=by
 obtain ⟨b,o,ecs,hA,hb,hl,hc,rfl,h1⟩:=h.2 i xs[i] (Hn hi)
 exact ⟨b,o,hA,hb,hc 0 _ rfl,hc 1 _ rfl,hc 2 _ rfl,hc 3 _ rfl,h1⟩
theorem qZ (A1 A2 A3 A4 A5 A6 A7 A8 A9 A10 A11 A12:Option Addr) (p:Lp) (c1 c2 c3 c4 c5 c6 c7 c8 c9 c10 c11 c12:Nat) (s:lI) (P1 P2 P3:Option Addr) (d1 d2 d3:Nat) (w:World) (h:cJ w w.heap.size A1 A2 A3 A4 A5 A6 A7 A8 A9 A10 A11 A12 p) (h1:Sl 1 bd w w.heap.size P1 s.takes) (h2:Sl 1 ro w w.heap.size P2 s.keys) (h3:Sl 2 xm w w.heap.size P3 s.brs):
  Calls prog 65 #[.agg #[.slice A1 p.heads.length c1,.slice A2 p.metas.length c2,.slice A3 p.steps.length c3,.slice A4 p.acts.length c4,.slice A5 p.tabs.length c5,.slice A6 p.control.length c6,.slice A7 p.emit.length c7,.slice A8 p.nh.length c8,.slice A9 p.nf.length c9,.slice A10 p.nm.length c10,.slice A11 p.na.length c11,.slice A12 p.nt.length c12],.agg #[.slice P1 s.takes.length d1,.slice P2 s.keys.length d2,.slice P3 s.brs.length d3,.int .i64 s.to]] w fun e w'=>e=.returned (.bool (eJ p s))∧Below w.heap.size w w':=by
 obtain ⟨takes,ks,brs,tt⟩:=s
 simp only at h1 h2 h3 ⊢
 have lt1:=h1.len
 have lt2:=h2.len
 have lt3:=h3.len
 have ls:=h.steps.len
 have lh:=h.heads.len
 obtain ⟨wz,hwz,hsz,hbz,hcz,-⟩:=ak w #[.slice A1 p.heads.length c1,.slice A2 p.metas.length c2,.slice A3 p.steps.length c3,.slice A4 p.acts.length c4,.slice A5 p.tabs.length c5,.slice A6 p.control.length c6,.slice A7 p.emit.length c7,.slice A8 p.nh.length c8,.slice A9 p.nf.length c9,.slice A10 p.nm.length c10,.slice A11 p.na.length c11,.slice A12 p.nt.length c12] 33
 obtain ⟨wa,hwa,hsa,hba,hca,-⟩:=ak wz #[.slice P1 takes.length d1,.slice P2 ks.length d2,.slice P3 brs.length d3,.int .i64 tt] 100
 have k0:w.heap.size<wz.heap.size:=by omega
 obtain ⟨y0,y1,y2,y3,y4,y5,y6,y7,y8,y9,y10,y11⟩:=aC fun i=>(hba.cell (p:=⟨w.heap.size,i,none⟩) k0).trans (hcz i)
 rw [hsz] at hca
 have x0:wa.cell? ⟨w.heap.size+1,0,none⟩=some (.slice P1 takes.length d1):=hca 0
 have x1:wa.cell? ⟨w.heap.size+1,1,none⟩=some (.slice P2 ks.length d2):=hca 1
 have x2:wa.cell? ⟨w.heap.size+1,2,none⟩=some (.slice P3 brs.length d3):=hca 2
 have x3:wa.cell? ⟨w.heap.size+1,3,none⟩=some (.int .i64 tt):=hca 3
 have hl1:w.heap.size<wa.heap.size:=by omega
 have hl2:w.heap.size+1<wa.heap.size:=by omega
 have hw:Below w.heap.size w wa:=hbz.trans (hba.mono (by omega))
 have hP:=aa ((h.below hw).more (B':=wa.heap.size) hw.size)
 have hT:=aa ((h1.below ai hw).more (B':=wa.heap.size) ai hw.size)
 have hK:=aa ((h2.below aS hw).more (B':=wa.heap.size) aS hw.size)
 have hB:=aa ((h3.below cz hw).more (B':=wa.heap.size) cz hw.size)
 have hv:=aa (show eJ p ⟨takes,ks,brs,tt⟩=(decide (takes.length≤8)&&decide (ks.length≤4)&&gJ p tt&&am (aK (dJ p.heads.length) takes) takes.length&&(if ks.length=0 then decide (brs.length=0) else
  decide (tt=0)&&decide (1≤brs.length)&&decide (brs.length≤16)&&am (mM p ⟨takes,ks,brs,tt⟩) ks.length)) from rfl)
 replace hw:=aa hw
 replace hsa:=aa hsa
 clear hca hcz hba hbz h h1 h2 h3
 go_enter func65,ntmps65
 by_cases a1:takes.length≤8
 focus
  have a1z:¬(8:Int)<(takes.length:Int):=by omega
  rw [decide_eq_true a1,Hk] at hv
  by_cases a2:ks.length≤4
  focus
   have a2z:¬(4:Int)<(ks.length:Int):=by omega
   rw [decide_eq_true a2,Hk] at hv
   by_cases a3:tt< -2
   rw [show gJ p tt=false from by unfold gJ;rw [decide_eq_false (show ¬(-2:Int)≤tt by omega)];rfl,Hg,Hg] at hv
   rotate_right
   focus
    by_cases a4:(p.steps.length:Int)≤tt
    rw [show gJ p tt=false from by unfold gJ;rw [decide_eq_false (show ¬tt<(p.steps.length:Int) by omega),Bool.and_false],Hg,Hg] at hv
    rotate_right
    focus
     rw [show gJ p tt=true from by unfold gJ;rw [decide_eq_true (show (-2:Int)≤tt by omega),decide_eq_true (show tt<(p.steps.length:Int) by omega)];rfl,Hk] at hv
     go_wp2
     go_loopw [5] (fun i wr=>∃ k:Nat,k≤takes.length∧i=.int .i64 k∧Hid (am (aK (dJ p.heads.length) takes) k=true)∧Hid (Below wa.heap.size wa wr)) (fun i _=>takes.length-(intOf i).toNat)
     case atStart=>exact ⟨0,Hm _,rfl,aa rfl,aa (Hf _ _)⟩
     case round=>
      obtain ⟨k,hk,rfl,hcn,hG⟩:=hrel
      have kbr:=ah hG.out
      have hzr:=hG.out.size
      have r0:=(kbr.1 _ 0 hl1).trans y0
      have r2:=(kbr.1 _ 2 hl1).trans y2
      have q0:=(kbr.1 _ 0 hl2).trans x0
      have q1:=(kbr.1 _ 1 hl2).trans x1
      have q2:=(kbr.1 _ 2 hl2).trans x2
      have q3:=(kbr.1 _ 3 hl2).trans x3
      by_cases hlt:k<takes.length
      ·have hkz:(k:Int)<(takes.length:Int):=by omega
       obtain ⟨b,o,hA1,hb,hcell⟩:=hT.out.int hlt
       subst hA1
       have n0:=(kbr.1 _ (o+k) hb).trans hcell
       have hN:=aa (fun (g:dJ p.heads.length takes[k]=true)=>show am (aK (dJ p.heads.length) takes) (k+1)=true from by rw [am,hcn.out,ag _ hlt,g];rfl)
       have hlo:=aa (fun (g:dJ p.heads.length takes[k]=false)=>show am (aK (dJ p.heads.length) takes) takes.length=false from aN hlt (by rw [ag _ hlt];exact g))
       have hwd:=aa (fun m=>hw.out.trans ((hG.out.trans (au ((Hf wr.heap.size wr).mono hzr) m)).mono hw.out.size))
       have hgd:=aa (fun m=>hG.out.trans (au ((Hf wr.heap.size wr).mono hzr) m))
       generalize takes[k]=x at hcell n0 hN hlo
       clear kbr x0 x1 x2 x3 y0 y1 y2 y3 y4 y5 y6 y7 y8 y9 y10 y11 hcell
       by_cases c1:x<0
       ·have c1z:decide (x<0)=true:=decide_eq_true c1
        rw [hlo.out (cj (by omega)),Hg] at hv
        go_wp2_with fail
        go_quiet (fail)
        go_wp2
        go_ret
        exact ⟨ad hv.out.symm,hwd.out _⟩
       ·have c1z:decide (x<0)=false:=decide_eq_false c1
        by_cases c2:(p.heads.length:Int)≤x
        ·have c2z:decide ((p.heads.length:Int)≤x)=true:=decide_eq_true c2
         rw [hlo.out (cj (by omega)),Hg] at hv
         go_wp2_with fail
         go_quiet (fail)
         go_wp2
         go_ret
         exact ⟨ad hv.out.symm,hwd.out _⟩
        ·have c2z:decide ((p.heads.length:Int)≤x)=false:=decide_eq_false c2
         replace hN:=aa (hN.out (by unfold dJ;rw [decide_eq_true (show 0≤x by omega),decide_eq_true (show x<(p.heads.length:Int) by omega)];rfl))
         go_wp2_with fail
         go_quiet (fail)
         go_wp2
         go_roundw
         case rel=>exact ⟨k+1,by omega,by go_num,hN,aa (hgd.out _)⟩
         case measure=>simp [intOf];omega
      ·have hke:k=takes.length:=by omega
       subst hke
       rw [hcn.out,Hk] at hv
       obtain ⟨w2,rfl⟩:∃ w2:World,w2=wr:=⟨_,rfl⟩
       have r1:=(kbr.1 _ 1 hl1).trans y1
       have r3:=(kbr.1 _ 3 hl1).trans y3
       have r4:=(kbr.1 _ 4 hl1).trans y4
       have r5:=(kbr.1 _ 5 hl1).trans y5
       have r6:=(kbr.1 _ 6 hl1).trans y6
       have r7:=(kbr.1 _ 7 hl1).trans y7
       have r8:=(kbr.1 _ 8 hl1).trans y8
       have r9:=(kbr.1 _ 9 hl1).trans y9
       have r10:=(kbr.1 _ 10 hl1).trans y10
       have r11:=(kbr.1 _ 11 hl1).trans y11
       have m1:=He hl1 hzr
       have m2:=He hl2 hzr
       have hP2:=aa ((hP.out.below hG.out).more (B':=w2.heap.size) hzr)
       have hK2:=aa ((hK.out.below aS hG.out).more (B':=w2.heap.size) aS hzr)
       have hB2:=aa ((hB.out.below cz hG.out).more (B':=w2.heap.size) cz hzr)
       have hw2:=aa (hw.out.trans (hG.out.mono hw.out.size))
       clear kbr x0 x1 x2 x3 y0 y1 y2 y3 y4 y5 y6 y7 y8 y9 y10 y11 hP hT hK hB hG hcn
       by_cases b0:ks.length=0
       ·have b0z:((ks.length:Int)==0)=true:=by rw [beq_iff_eq];omega
        rw [if_pos b0] at hv
        by_cases b1:brs.length=0
        ·have b1z:((brs.length:Int)==0)=true:=by rw [beq_iff_eq];omega
         rw [decide_eq_true b1] at hv
         replace b0:=aa b0
         replace b1:=aa b1
         go_wp2
         go_ret
         exact ⟨ad hv.out.symm,hw2.out⟩
        ·have b1z:((brs.length:Int)==0)=false:=by rw [beq_eq_false_iff_ne];omega
         rw [decide_eq_false b1] at hv
         replace b0:=aa b0
         go_wp2
         go_ret
         exact ⟨ad hv.out.symm,hw2.out⟩
       ·have b0z:((ks.length:Int)==0)=false:=by rw [beq_eq_false_iff_ne];omega
        rw [if_neg b0] at hv
        by_cases b2:tt=0
        ·rw [decide_eq_true b2,Hk] at hv
         subst b2
         by_cases b3:1≤brs.length
         ·rw [decide_eq_true b3,Hk] at hv
          have b3z:¬(brs.length:Int)<1:=by omega
          by_cases b4:brs.length≤16
          ·rw [decide_eq_true b4,Hk] at hv
           have b4z:¬(16:Int)<(brs.length:Int):=by omega
           have hkey:=aa (fun (k:Nat) (hlt:k<ks.length)=>show mM p ⟨takes,ks,brs,0⟩ k=(match jm p (-1) ks[k] with
            |none=>false
            |some w=>am (aK (Cs p ks.length k w) brs) brs.length) from ag (fun c=>match jm p (-1) c with
            |none=>false
            |some w=>am (aK (Cs p ks.length k w) brs) brs.length) hlt)
           generalize mM p ⟨takes,ks,brs,0⟩=KR at hv hkey
           go_wp2
           go_loopw [6,7,8,9,10] (fun ki _ _ _ _ wr=>∃ k:Nat,k≤ks.length∧ki=.int .i64 k∧Hid (am KR k=true)∧Hid (Below w2.heap.size w2 wr)) (fun ki _ _ _ _ _=>ks.length-(intOf ki).toNat)
           case atStart=>exact ⟨0,Hm _,rfl,aa rfl,aa (Hf _ _)⟩
           case round=>
            obtain ⟨k,hk,rfl,hcn,hG⟩:=hrel
            have kbr:=ah hG.out
            have hzr:=hG.out.size
            have hgo:=aa (fun W (hW:Below wr.heap.size wr W)=>hw2.out.trans ((hG.out.trans (hW.mono hzr)).mono hw2.out.size))
            by_cases hlt:k<ks.length
            ·have hkz:(k:Int)<(ks.length:Int):=by omega
             obtain ⟨b,o,A',c',hA1,hb,hcell,hE⟩:=hK2.out.code hlt
             subst hA1
             have hkv:=hkey.out k hlt
             have hX:∀ d os,Hid (Calls prog 69 #[.agg #[.slice A1 p.heads.length c1,.slice A2 p.metas.length c2,.slice A3 p.steps.length c3,.slice A4 p.acts.length c4,.slice A5 p.tabs.length c5,.slice A6 p.control.length c6,.slice A7 p.emit.length c7,.slice A8 p.nh.length c8,.slice A9 p.nf.length c9,.slice A10 p.nm.length c10,.slice A11 p.na.length c11,.slice A12 p.nt.length c12],.int .i64 (-1),.slice A' ks[k].length c'] (Ht (redrawn wr d) os) _):=fun d os=>aa (gq A1 A2 A3 A4 A5 A6 A7 A8 A9 A10 A11 A12 p c1 c2 c3 c4 c5 c6 c7 c8 c9 c10 c11 c12 (-1) ks[k] A' c' _ ((hP2.out.below (aW hG.out hzr d os)).more (Hj hzr (below_regrown wr d os).size)) ((hE.below bq (aW hG.out hzr d os)).more bq (Hj hzr (below_regrown wr d os).size)))
             have hN:=aa (fun (g:KR k=true)=>show am KR (k+1)=true from by rw [am,hcn.out,g];rfl)
             have hlo:=aa (fun (g:KR k=false)=>show am KR ks.length=false from aN hlt g)
             unfold Cw at hX
             generalize ks[k]=ec at hcell hE hX hkv
             generalize jm p (-1) ec=D at hX hkv
             have n0:=(kbr.1 _ (o+k) hb).trans hcell
             have u0:=(kbr.1 _ 0 m1).trans r0
             have u1:=(kbr.1 _ 1 m1).trans r1
             have u2:=(kbr.1 _ 2 m1).trans r2
             have u3:=(kbr.1 _ 3 m1).trans r3
             have u4:=(kbr.1 _ 4 m1).trans r4
             have u5:=(kbr.1 _ 5 m1).trans r5
             have u6:=(kbr.1 _ 6 m1).trans r6
             have u7:=(kbr.1 _ 7 m1).trans r7
             have u8:=(kbr.1 _ 8 m1).trans r8
             have u9:=(kbr.1 _ 9 m1).trans r9
             have u10:=(kbr.1 _ 10 m1).trans r10
             have u11:=(kbr.1 _ 11 m1).trans r11
             have v1:=(kbr.1 _ 1 m2).trans q1
             have hgw:=aE (show Below wr.heap.size wr wr from Hf _ _) (Hh _)
             have hB1:=He m1 hzr
             have hB2':=He m2 hzr
             have hB3:=He hb hzr
             clear kbr hcell hE
             cases D with
             |none=>
              simp only at hkv
              rw [hlo.out hkv] at hv
              replace hkv:=aa hkv
              simp only [Option.getD_none,Option.isSome_none] at hX
              go_wp2_with fail
              refine bV ?_
              repeat (any_goals (first|go_big_quiet_step ((go_at_call 69;with_reducible exact Hi (hX _ _).out))|quiet_step ((go_at_call 69;with_reducible exact Hi (hX _ _).out))))
              refine wpQuiet_nil ?_
              intro wq hwq
              replace hwq:=ac hwq
              go_wp2
              go_ret
              exact ⟨ad hv.out.symm,hgo.out _ hwq⟩
             |some y=>
              simp only at hkv
              simp only [H9,Option.isSome_some] at hX
              replace hkv:=aa hkv
              go_wp2_with fail
              refine bV ?_
              repeat (any_goals (first|go_big_quiet_step ((go_at_call 69;with_reducible exact Hi (hX _ _).out))|quiet_step ((go_at_call 69;with_reducible exact Hi (hX _ _).out))))
              refine wpQuiet_nil ?_
              intro wq hwq
              replace hwq:=ac hwq
              have hGq:=aa (hG.out.trans (hwq.mono hzr))
              clear n0 u0 u1 u2 u3 u4 u5 u6 u7 u8 u9 u10 u11 v1 hgw hB1 hB2' hB3 hX hwq
              obtain ⟨w3,rfl⟩:∃ w3:World,w3=wr:=⟨_,rfl⟩
              have hzq:=hGq.out.size
              have kq:=ah hGq.out
              have s1:=(kq.1 _ 1 m2).trans q1
              have s2:=(kq.1 _ 2 m2).trans q2
              generalize hBR:aK (Cs p ks.length k y) brs=BR at hkv
              go_wp2
              go_loopw [9,10] (fun ii _ wr=>∃ i:Nat,i≤brs.length∧ii=.int .i64 i∧Hid (am BR i=true)∧Hid (Below w2.heap.size w2 wr)) (fun ii _ _=>brs.length-(intOf ii).toNat)
              case atStart=>exact ⟨0,Hm _,rfl,aa rfl,hGq⟩
              case round=>
               obtain ⟨i,hi,rfl,hci,hI⟩:=hrel
               have kbi:=ah hI.out
               have hzi:=hI.out.size
               have hgi:=aa (fun W (hW:Below wr.heap.size wr W)=>hw2.out.trans ((hI.out.trans (hW.mono hzi)).mono hw2.out.size))
               have hgI:=aa (fun W (hW:Below wr.heap.size wr W)=>hI.out.trans (hW.mono hzi))
               have t1:=(kbi.1 _ 1 m2).trans q1
               have t2:=(kbi.1 _ 2 m2).trans q2
               by_cases hlt2:i<brs.length
               ·have hiz:(i:Int)<(brs.length:Int):=by omega
                obtain ⟨g,og,PA,pc,hA3,hg,g0,g1,hs⟩:=hB2.out.br hlt2
                subst hA3
                have g0':=(kbi.1 _ (og+i*2) hg).trans g0
                have g1':=(kbi.1 _ (og+i*2+1) hg).trans g1
                have hbv:BR i=Cs p ks.length k y brs[i]:=by rw [←hBR,ag _ hlt2]
                have hNi:=aa (fun (g:BR i=true)=>show am BR (i+1)=true from by rw [am,hci.out,g];rfl)
                have hli:=aa (fun (g:BR i=false)=>hlo.out (hkv.out.trans (aN hlt2 g)))
                have hs':=(hs.below aL hI.out).more aL hzi
                generalize brs[i]=br at g0 g1 g0' g1' hbv hs hs'
                obtain ⟨pats,bt⟩:=br
                simp only at g0 g1 g0' g1' hs hs'
                have hbe:BR i=(gJ p bt&&decide (pats.length=ks.length)&&aK (fun x=>ef x y) pats k):=hbv
                clear hbv g0 g1 hs
                have lp:=hs'.len
                obtain ⟨wn,hwn,hsn,hbn,hcl,-⟩:=ak wr #[.slice PA pats.length pc,.int .i64 bt] 104
                have z0:wn.cell? ⟨wr.heap.size,0,none⟩=some (.slice PA pats.length pc):=hcl 0
                have z1:wn.cell? ⟨wr.heap.size,1,none⟩=some (.int .i64 bt):=hcl 1
                have z2:=(hbn.cell (p:=⟨w.heap.size,2,none⟩) (He m1 hzi)).trans ((kbi.1 _ 2 m1).trans r2)
                have z3:=(hbn.cell (p:=⟨w.heap.size+1,1,none⟩) (He m2 hzi)).trans t1
                have hgn:=aa (fun W (hW:Below wn.heap.size wn W)=>hgi.out W (hbn.trans (hW.mono hbn.size)))
                have hgN:=aa (fun W (hW:Below wn.heap.size wn W)=>hgI.out W (hbn.trans (hW.mono hbn.size)))
                have hs2:=aa (hs'.below aL hbn)
                replace hsn:=aa hsn
                clear hcl hbn hs' kbi
                by_cases c1:bt< -2
                ·rw [hli.out (by rw [hbe,show gJ p bt=false from by unfold gJ;rw [decide_eq_false (show ¬(-2:Int)≤bt by omega)];rfl,Hg,Hg])] at hv
                 replace hbe:=aa hbe
                 go_wp2
                 go_ret
                 exact ⟨ad hv.out.symm,hgn.out _ (Hf _ _)⟩
                ·by_cases c2:(p.steps.length:Int)≤bt
                 ·rw [hli.out (by rw [hbe,show gJ p bt=false from by unfold gJ;rw [decide_eq_false (show ¬bt<(p.steps.length:Int) by omega),Bool.and_false],Hg,Hg])] at hv
                  replace hbe:=aa hbe
                  go_wp2
                  go_ret
                  exact ⟨ad hv.out.symm,hgn.out _ (Hf _ _)⟩
                 ·rw [show gJ p bt=true from by unfold gJ;rw [decide_eq_true (show (-2:Int)≤bt by omega),decide_eq_true (show bt<(p.steps.length:Int) by omega)];rfl,Hk] at hbe
                  by_cases c3:pats.length=ks.length
                  ·have hkp:k<pats.length:=by omega
                   rw [decide_eq_true c3,Hk,ag _ hkp] at hbe
                   have c3z:((pats.length:Int) !=(ks.length:Int))=false:=by rw [c3];exact bne_self_eq_false _
                   have hkpz:(k:Int)<(pats.length:Int):=by omega
                   replace c3:=aa c3
                   obtain ⟨g2,o2,hA4,hg2,e0,e1,e2,e3,hu⟩:=hs2.out.pat hkp
                   subst hA4
                   generalize pats[k]=x at e0 e1 e2 e3 hu hbe
                   have hM:=tg x y wn hu
                   obtain ⟨vh,vl,mh,ml⟩:=x
                   simp only at e0 e1 e2 e3 hM
                   generalize ef ⟨vh,vl,mh,ml⟩ y=z at hM hbe
                   replace hM:=aa hM
                   cases z with
                   |false=>
                    rw [hli.out hbe] at hv
                    replace hbe:=aa hbe
                    go_wp2_with (go_at_call 124;refine hM.out.mono ?_;rintro e w5 ⟨rfl,hb5⟩)
                    go_ret
                    exact ⟨ad hv.out.symm,hgn.out _ hb5⟩
                   |true=>
                    replace hNi:=aa (hNi.out hbe)
                    replace hbe:=aa hbe
                    go_wp2_with (go_at_call 124;refine hM.out.mono ?_;rintro e w5 ⟨rfl,hb5⟩)
                    go_roundw
                    case rel=>exact ⟨i+1,by omega,by go_num,hNi,aa (hgN.out _ hb5)⟩
                    case measure=>simp [intOf];omega
                  ·have c3z:((pats.length:Int) !=(ks.length:Int))=true:=by rw [bne_iff_ne];omega
                   rw [hli.out (by rw [hbe,decide_eq_false c3,Hg])] at hv
                   replace hbe:=aa hbe
                   replace c3:=aa c3
                   go_wp2
                   go_ret
                   exact ⟨ad hv.out.symm,hgn.out _ (Hf _ _)⟩
               ·have hie:i=brs.length:=by omega
                subst hie
                replace hN:=aa (hN.out (hkv.out.trans hci.out))
                go_wp2
                go_roundw
                case rel=>exact ⟨k+1,by omega,by go_num,hN,hI⟩
                case measure=>simp [intOf];omega
            ·have hke:k=ks.length:=by omega
             subst hke
             rw [hcn.out] at hv
             go_wp2
             go_ret
             exact ⟨ad hv.out.symm,hgo.out _ (Hf _ _)⟩
          ·rw [decide_eq_false b4,Hg] at hv
           have b4z:(16:Int)<(brs.length:Int):=by omega
           go_wp2
           go_ret
           exact ⟨ad hv.out.symm,hw2.out⟩
         ·rw [decide_eq_false b3,Hg,Hg] at hv
          have b3z:(brs.length:Int)<1:=by omega
          go_wp2
          go_ret
          exact ⟨ad hv.out.symm,hw2.out⟩
        ·rw [decide_eq_false b2,Hg,Hg,Hg] at hv
         have b2z:(tt !=0)=true:=by simpa using b2
         go_wp2
         go_ret
         exact ⟨ad hv.out.symm,hw2.out⟩
  rotate_right
  have a2z:(4:Int)<(ks.length:Int):=by omega
  rw [decide_eq_false a2,Hg,Hg,Hg] at hv
 rotate_right
 have a1z:(8:Int)<(takes.length:Int):=by omega
 rw [decide_eq_false a1,Hg,Hg,Hg,Hg] at hv
 all_goals
  go_wp2
  go_ret
  exact ⟨ad hv.out.symm,hw.out⟩
section
attribute [local go_sem] run_panic_iface
attribute [local go_sem ↓] cU
theorem nV {ps:List Int} {f:Nat} {acc xs:List (Int×Int)} {ts r:List Tk} (h:fS ps (f+1) acc ts=some (xs,r)):(af ts).kind=2∧acc.length<ps.length∧cT (af ts) (ps.getD acc.length 0)=true∧(if bA [44] (ae ts)=true then fS ps f (acc++ [Cu (af ts).n]) (ae (ae ts))=some (xs,r) else acc++ [Cu (af ts).n]=xs∧ae ts=r):=by
 unfold fS lK at h
 by_cases hk:(af ts).kind=2
 ·rw [if_pos hk] at h
  simp only [Hq] at h
  split at h
  ·rename_i hc
   refine ⟨hk,hc.1,hc.2,?_⟩
   split at h
   ·rename_i hi
    rw [if_pos hi];exact h
   ·rename_i hi
    rw [if_neg hi];cases h;exact ⟨rfl,rfl⟩
  ·cases h
 ·rw [if_neg hk] at h;cases h
theorem EO {w:World} {g cap:Nat} {A:Option Addr} {l l':List Tk} {V:Array Value} {ps:List Int} {xs:List (Int×Int)} (h:bb w g l V) (hP:Sl 1 bd w g A ps) (hw:∀ y∈ps,aj y=true) (hps:ps.length≤1000) (ho:qL ps l=some (xs,l')):
  Calls prog 152 #[.pointer (some ⟨g,0,none⟩),.slice A ps.length cap] w fun e w'=>∃ v,e=.returned v∧oN w' w.heap.size v xs∧ay g w w'∧bb w' g l' V:=by
 have lt:=h.lt
 unfold qL iI at ho
 by_cases h40:bA [40] l=true
 ·rw [if_pos h40] at ho
  simp only [Hq] at ho
  obtain ⟨l2,hb0,h41,hlen,rfl⟩:∃ l2,(if bA [41] (ae l)=true then some ([],ae l) else fS ps ((ae l).length+1) [] (ae l))=some (xs,l2)∧bA [41] l2=true∧xs.length=ps.length∧l'=ae l2:=by
   cases hb:(if bA [41] (ae l)=true then some ([],ae l) else fS ps ((ae l).length+1) [] (ae l)) with
   |none=>rw [hb] at ho;cases ho
   |some y=>
    rw [hb] at ho
    simp only [Hq] at ho
    split at ho
    ·rename_i hc
     cases ho
     exact ⟨y.2,rfl,hc.1,hc.2,rfl⟩
    ·cases ho
  clear ho
  have hW0:=aa (kZ ⟨#[40]⟩ h h40)
  have hI0:=aa (fun (W:World) (hW:bb W g (ae l) V)=>rq ⟨#[41]⟩ hW)
  have hz0:∀ W,bb W g l2 V→Hid (Calls prog 149 #[.pointer (some ⟨g,0,none⟩),.string ⟨#[41]⟩] W fun e w'=>e=.returned (.bool true)∧Below W.heap.size W w'):=fun W hW=>aa (by have:=rq ⟨#[41]⟩ hW;rw [show bA (⟨#[41]⟩:ByteArray).data.toList l2=true from h41] at this;exact this)
  replace hz0:=aa hz0
  have hW1:=aa (fun (W:World) (hW:bb W g l2 V)=>kZ ⟨#[41]⟩ hW h41)
  have hPk:=aa (fun (W:World) (hW:ay g w W)=>(hP.keep ai fun q hq=>by obtain ⟨qb,qi,qn⟩:=q;exact World.cell?_of_block (hW.blk (HB hq lt) (HW hq)):Sl 1 bd W g A ps))
  replace hb0:=aa hb0
  replace h41:=aa h41
  replace hlen:=aa hlen
  replace hw:=aa hw
  clear h hP h40
  go_enter func152,ntmps152
  go_upto_region 2 with (go_at_call 146;refine hW0.out.mono ?_;rintro e w1 ⟨rfl,hG1,hR1⟩)
  have hI1:=aa (hI0.out w1 hR1)
  have hR1':=aa hR1
  have hG1':=aa hG1
  clear hI0 hW0 hG1
  obtain ⟨b0,hb1⟩:∃ b,bA [41] (ae l)=b:=⟨_,rfl⟩
  rw [hb1] at hI1 hb0
  replace hb1:=aa hb1
  go_wp2_with (go_at_call 149;refine hI1.out.mono ?_;rintro e w2 ⟨rfl,hb2⟩)
  have hR2:=aa (hR1.below hb2 hR1.lt)
  have hG2:=aa (hG1'.out.trans (ay.of hb2))
  go_loopw [4,5,6] (fun v4 v5 _ wr=>∃ (more:Bool) (acc:List (Int×Int)) (l1:List Tk),v5=.bool more∧Hid (oN wr w.heap.size v4 acc)∧Hid (bb wr g l1 V)∧Hid (ay g w wr)∧Hid (acc.length≤ps.length)∧Hid (more=true→∃ f,fS ps f acc l1=some (xs,l2))∧Hid (more=false→acc=xs∧l1=l2)) (fun _ _ _ wr=>nN g wr)
  case atStart=>
   refine ⟨!b0,[],ae l,rfl,aa ⟨fun x hx=>by simp at hx,World.ownsRow_nil _ _ _ _⟩,hR2,hG2,aa (Hm _),aa (fun hq=> ?_),aa (fun hq=> ?_)⟩
   ·have:b0=false:=by simpa using hq
    subst this
    exact ⟨_,hb0.out⟩
   ·have:b0=true:=by simpa using hq
    subst this
    have:=hb0.out
    simp only [if_true] at this
    injection this with this
    injection this with e1 e2
    exact ⟨e1,e2⟩
  case round=>
   clear hR2 hG2 hb2 hR1' hG1' hR1 hI1 hb0 hb1
   obtain ⟨more,acc,l1,rfl,hN,hR,hG,hal,hmt,hmf⟩:=hrel
   have hl0:=hR.out.left
   obtain ⟨A4,c4,hA4⟩:=bO hN.out.2
   subst hA4
   cases more with
   |false=>
    obtain ⟨rfl,rfl⟩:=hmf.out rfl
    have hI2:=hz0.out _ hR.out
    clear hmt hmf
    go_upto_region 12 with (go_at_call 149;refine hI2.out.mono ?_;rintro e w3 ⟨rfl,hb3⟩)
    have hR3:=aa (hR.out.below hb3 hR.out.lt)
    have hG3:=aa (hG.out.trans (ay.of hb3))
    have hN3:=aa (show oN w3 w.heap.size (.slice A4 acc.length c4) acc from ⟨hN.out.1,aZ hN.out.2 (ay.of (g:=g) hb3) lt⟩)
    clear hb3 hR hG hN hI2
    obtain ⟨b,o,cap',lt',bg,pos,le,ml,d0,f0,k0,k1,k2,k3,k4,k5⟩:=hR3.out.open_
    have hbl:b<w3.heap.size:=by omega
    have lz:(0:Int)<(l1.length:Int):=by omega
    have hA:=aa (fun (W:World)=>aY (af l1) 13 W)
    generalize af l1=t at k0 k1 k2 k3 k4 k5 hA
    obtain ⟨k,s,wd,m,pl⟩:=t
    unfold g8 at hA
    simp only at k0 k1 k2 k3 k4 k5 hA
    generalize (⟨s.toArray⟩:ByteArray)=S at k1 hA
    generalize ((m / 18446744073709551616:Nat):Int)=hi at k3 hA
    generalize ((m % 18446744073709551616:Nat):Int)=lo at k4 hA
    have hle:((acc.length:Int)==(ps.length:Int))=true:=by rw [beq_iff_eq,hlen.out]
    go_upto_region 13 with (go_at_call 91;refine (hA.out _).mono ?_;rintro e w4 ⟨rfl,hb4⟩)
    have hR4:=aa (hR3.out.below hb4 hR3.out.lt)
    have hG4:=aa (hG3.out.trans (ay.of hb4))
    have hN4:=aa (show oN w4 w.heap.size (.slice A4 acc.length c4) acc from ⟨hN3.out.1,aZ hN3.out.2 (ay.of (g:=g) hb4) lt⟩)
    have hW2:=aa (hW1.out w4 hR4.out)
    clear hb4 hR3 hG3 hN3 k0 k1 k2 k3 k4 k5 d0 f0
    go_wp2_with (go_at_call 146;refine hW2.out.mono ?_;rintro e w5 ⟨rfl,hG5,hR5⟩)
    go_ret
    exact ⟨_,rfl,⟨hN4.out.1,aZ hN4.out.2 hG5 lt⟩,hG4.out.trans hG5,hR5⟩
   |true=>
    obtain ⟨f,hf⟩:=hmt.out rfl
    clear hmt hmf
    cases f with
    |zero=>cases hf
    |succ f=>
     obtain ⟨hk,hac,hgo,hnx⟩:=nV hf
     have hlt1:=ik hR.out.1 (by omega)
     have hle2:=bw (ae l1)
     have hNm:=aa (fB hR.out hk)
     have hwy:aj (ps.getD acc.length 0)=true:=hw.out _ (by rw [HT,Hn hac];exact Ho hac)
     have hA:=aa (fun (W:World)=>aY (af l1) 5 W)
     have hp128:=pK hwy
     have hn128:(af l1).n<2 ^ 128:=He (fY hgo) hp128
     have hGo:=aa (fun (W:World)=>sK (af l1) _ W hgo hn128)
     obtain ⟨yv,hyv⟩:∃ y,ps.getD acc.length 0=y:=⟨_,rfl⟩
     have hyc:∃ b o,A=some ⟨b,o,none⟩∧b<g∧∀ W,ay g w W→W.cell? ⟨b,o+acc.length,none⟩=some (.int .i64 yv):=by
      obtain ⟨b,o,hA1,hb1,hc1⟩:=(hPk.out w (ay.refl g w)).int hac
      refine ⟨b,o,hA1,hb1,fun W hW=> ?_⟩
      rw [World.cell?_of_block (hW.blk (HB hb1 lt) (HW hb1)),hc1,←hyv,HT,Hn hac]
      rfl
     obtain ⟨pb,po,rfl,hpb,hpc⟩:=hyc
     rw [hyv] at hGo
     have hnu:=aa (Fo (af l1).n hn128)
     have hnux:=aa (show Cu (af l1).n=((((af l1).n / 18446744073709551616:Nat):Int),(((af l1).n % 18446744073709551616:Nat):Int)) from rfl)
     have hacz:(acc.length:Int)<(ps.length:Int):=by omega
     have dac:decide ((acc.length:Int)<(ps.length:Int))=true:=decide_eq_true hacz
     replace hnx:=aa hnx
     replace hpc:=aa hpc
     generalize Cu (af l1).n=nu at hnu hnux hnx
     clear hgo hwy hp128 hn128 hf hk hyv
     generalize af l1=t at hNm hA hGo hnux
     obtain ⟨k,s,wd,m,pl⟩:=t
     unfold g8 at hNm hA hGo
     simp only at hNm hA hGo hnux
     generalize (⟨s.toArray⟩:ByteArray)=S at hNm hA hGo
     generalize ((m / 18446744073709551616:Nat):Int)=hi at hNm hA hGo hnux
     generalize ((m % 18446744073709551616:Nat):Int)=lo at hNm hA hGo hnux
     go_upto_region 5 with (go_at_call 151;refine hNm.out.mono ?_;rintro e w3 ⟨rfl,hG3,hR3⟩;obtain ⟨w4,hw4,hb4,hs4,hl4,x0,x1,x2,x3,x4,x5⟩:=bD w3 k wd hi lo pl S)
     have hT4:=aa (show fi w4 w3.heap.size k S wd hi lo pl from by rw [←hw4];exact bU w3 _ _ _ _ _ _)
     have hR4:=aa (hR3.below hb4.out hR3.lt)
     have hG4:=aa (hG3.trans (ay.of (g:=g) hb4.out))
     have hrg:g<w3.heap.size:=hR3.lt
     have hsw3:w.heap.size≤w3.heap.size:=Hj hG.out.size hG3.size
     generalize w3.heap.size=r at*
     clear hG3 hR3 hw4 hb4 hs4
     go_upto_region 6 with (go_at_call 91;refine (hA.out _).mono ?_;rintro e w5 ⟨rfl,hb5⟩)
     have hT5:=aa (hT4.out.grg (g:=g) (ay.of hb5) (by omega))
     have hR5:=aa (hR4.out.below hb5 hR4.out.lt)
     have hG5:=aa (hG4.out.trans (ay.of (g:=g) hb5))
     clear x0 x1 x2 x3 x4 x5 hb5 hT4 hR4 hG4
     obtain ⟨x0,x1,x2,x3,x4,x5⟩:=hT5.out.cells
     have hl5:=hT5.out.lt
     have p0:=hpc.out w5 (hG.out.trans hG5.out)
     have hpl5:pb<w5.heap.size:=by omega
     have hgw:=aE (show Below w5.heap.size w5 w5 from Hf _ _) (Hh _)
     go_wp2_with fail
     refine bV ?_
     repeat (any_goals (first|go_big_quiet_step ((go_at_call 180;with_reducible exact Hi (hGo.out _)))|quiet_step ((go_at_call 180;with_reducible exact Hi (hGo.out _)))))
     refine wpQuiet_nil ?_
     intro w6 hw6
     replace hw6:=ac hw6
     have hT6:=aa (hT5.out.grg (g:=g) (ay.of hw6) (by omega))
     have hR6:=aa (hR5.out.below hw6 hR5.out.lt)
     have hG6:=aa (hG5.out.trans (ay.of (g:=g) hw6))
     have hN6:=aa (show oN w6 w.heap.size (.slice A4 acc.length c4) acc from ⟨hN.out.1,aZ hN.out.2 hG6.out lt⟩)
     clear x0 x1 x2 x3 x4 x5 hl5 p0 hpl5 hgw hT5 hR5 hG5 hw6
     obtain ⟨-,-,-,x3,x4,-⟩:=hT6.out.cells
     have hl6:=hT6.out.lt
     obtain ⟨v',w7,hrun,hN7,hb7⟩:=yj nu hnu.out hN6.out (Hj hG.out.size hG6.out.size) (by omega)
     rw [hnux.out] at hrun
     simp only at hrun
     obtain ⟨A7,c7,hA7⟩:∃ A c,v'=.slice A (acc.length+1) c:=by obtain ⟨A,c,h⟩:=bO hN7.2;exact ⟨A,c,by rw [h];simp⟩
     subst hA7
     replace hN7:=aa hN7
     have hR7:=aa (hR6.out.below hb7 lt)
     have hG7:=aa (show ay g w w7 from ⟨hb7.os.trans (hG.out.trans hG6.out).os,hb7.tape.trans (hG.out.trans hG6.out).tape,hb7.output.trans (hG.out.trans hG6.out).output,Hj (hG.out.trans hG6.out).size hb7.size,fun q hq hn=>(hb7.block q hq).trans ((hG.out.trans hG6.out).block q hq hn)⟩)
     have hI7:=aa (rq ⟨#[44]⟩ hR7.out)
     clear hR6 hG6 hN6 hT6 hb7 hNm hA hGo
     cases hi44:bA [44] (ae l1) with
     |true=>
      rw [hi44] at hI7
      have hnx1:=hnx.out
      rw [if_pos hi44] at hnx1
      have hNt:=aa (fun (W:World) (hW:bb W g (ae l1) V)=>jF hW)
      generalize af (ae l1)=t2 at hNt
      obtain ⟨k2,s2,wd2,m2,pl2⟩:=t2
      unfold g8 at hNt
      simp only at hNt
      generalize (⟨s2.toArray⟩:ByteArray)=S2 at hNt
      generalize ((m2 / 18446744073709551616:Nat):Int)=hi2 at hNt
      generalize ((m2 % 18446744073709551616:Nat):Int)=lo2 at hNt
      replace hnx1:=aa hnx1
      clear hnx hi44
      go_upto_region 10 with (go_at_call 149;refine hI7.out.mono ?_;rintro e w8 ⟨rfl,hb8⟩)
      have hR8:=hR7.out.below hb8 hR7.out.lt
      have hG8:=aa (hG7.out.trans (ay.of (g:=g) hb8))
      have hN8:=aa (show oN w8 w.heap.size (.slice A7 (acc.length+1) c7) (acc++ [nu]) from ⟨hN7.out.1,aZ hN7.out.2 (ay.of (g:=g) hb8) lt⟩)
      have hNt8:=aa (hNt.out w8 hR8)
      clear hb8 hR7 hG7 hN7 hI7 hNt hR8
      go_wp2_with (go_at_call 145;refine hNt8.out.mono ?_;rintro e w9 ⟨rfl,hG9,hR9⟩)
      have hl9:=hR9.left
      go_roundw
      case rel=>exact ⟨true,acc++ [nu],ae (ae l1),rfl,aa ⟨hN8.out.1,aZ hN8.out.2 hG9 lt⟩,aa hR9,aa (hG8.out.trans hG9),aa (by rw [Hu,Ie];omega),aa (fun _=>⟨f,hnx1.out⟩),aa (fun hq=>by cases hq)⟩
      case measure=>rw [hl0,hl9];omega
     |false=>
      rw [hi44] at hI7
      have hnx1:=hnx.out
      rw [if_neg (by rw [hi44];decide)] at hnx1
      replace hnx1:=aa hnx1
      clear hnx hi44
      go_wp2_with (go_at_call 149;refine hI7.out.mono ?_;rintro e w8 ⟨rfl,hb8⟩)
      have hR8:=hR7.out.below hb8 hR7.out.lt
      have hl8:=hR8.left
      go_roundw
      case rel=>exact ⟨false,acc++ [nu],ae l1,rfl,aa ⟨hN7.out.1,aZ hN7.out.2 (ay.of (g:=g) hb8) lt⟩,aa hR8,aa (hG7.out.trans (ay.of (g:=g) hb8)),aa (by rw [Hu,Ie];omega),aa (fun hq=>by cases hq),aa (fun _=>hnx1.out)⟩
      case measure=>rw [hl0,hl8];omega
 ·rw [if_neg h40] at ho;cases ho
end
section
attribute [local go_sem] run_panic_iface
attribute [local go_sem ↓] cU
def oy (p:Lp) (t:eF):List Int:=t.keys.map fun c=>(fk p (-1) c).getD 0
theorem BE {p:Lp} {t:eF} {i:Nat} (h:i<t.keys.length):(oy p t)[i]? =some (m7 p t i):=by
 unfold oy m7
 rw [List.getElem?_map,Hn h];rfl
theorem fC (p:Lp) (t:eF):(oy p t).length=t.keys.length:=by unfold oy;simp
theorem cJ.grgE {w w':World} {g:Nat} (A1 A2 A3 A4 A5 A6 A7 A8 A9 A10 A11 A12:Option Addr) (p:Lp) (c1 c2 c3 c4 c5 c6 c7 c8 c9 c10 c11 c12:Nat) (h:cJ w g A1 A2 A3 A4 A5 A6 A7 A8 A9 A10 A11 A12 p) (hG:ay g w w') (hg:g<w.heap.size):cJ w' g A1 A2 A3 A4 A5 A6 A7 A8 A9 A10 A11 A12 p:=h.keep fun a ha=>World.cell?_of_block (hG.blk (HB ha hg) (HW ha))
theorem Sl.grgE {α:Type} {k:Nat} {R:CR α} {w w':World} {g:Nat} {A:Option Addr} {xs:List α} (hs:gH R) (h:Sl k R w g A xs) (hG:ay g w w') (hg:g<w.heap.size):Sl k R w' g A xs:=h.keep hs fun a ha=>World.cell?_of_block (hG.blk (HB ha hg) (HW ha))
theorem bb.cells13 {w:World} {g:Nat} {l:List Tk} {v0 v1 v2 v3 v4 v5 v6 v7 v8 v9 v10 v11 v12:Value} (h:bb w g l #[v0,v1,v2,v3,v4,v5,v6,v7,v8,v9,v10,v11,v12]):
  w.cell? ⟨g,0,none⟩=some v0∧w.cell? ⟨g,1,none⟩=some v1∧w.cell? ⟨g,2,none⟩=some v2∧w.cell? ⟨g,3,none⟩=some v3∧w.cell? ⟨g,4,none⟩=some v4∧w.cell? ⟨g,5,none⟩=some v5∧w.cell? ⟨g,6,none⟩=some v6∧w.cell? ⟨g,7,none⟩=some v7∧w.cell? ⟨g,8,none⟩=some v8∧w.cell? ⟨g,9,none⟩=some v9∧w.cell? ⟨g,10,none⟩=some v10∧w.cell? ⟨g,11,none⟩=some v11∧w.cell? ⟨g,12,none⟩=some v12:=
 ⟨h.cellV (by decide),h.cellV (by decide),h.cellV (by decide),h.cellV (by decide),h.cellV (by decide),h.cellV (by decide),h.cellV (by decide),h.cellV (by decide),h.cellV (by decide),h.cellV (by decide),h.cellV (by decide),h.cellV (by decide),h.cellV (by decide)⟩
theorem th (A1 A2 A3 A4 A5 A6 A7 A8 A9 A10 A11 A12:Option Addr) (p:Lp) (c1 c2 c3 c4 c5 c6 c7 c8 c9 c10 c11 c12:Nat) (SW:Value) (t:eF) (Q1 Q2 Q3 Q4:Option Addr) (q1 q2 q3 q4:Nat) {g:Nat} {l:List Tk} (w:World) (h:bb w g l #[.slice A1 p.heads.length c1,.slice A2 p.metas.length c2,.slice A3 p.steps.length c3,.slice A4 p.acts.length c4,.slice A5 p.tabs.length c5,.slice A6 p.control.length c6,.slice A7 p.emit.length c7,.slice A8 p.nh.length c8,.slice A9 p.nf.length c9,.slice A10 p.nm.length c10,.slice A11 p.na.length c11,.slice A12 p.nt.length c12,SW]) (hP:cJ w g A1 A2 A3 A4 A5 A6 A7 A8 A9 A10 A11 A12 p) (hk:Sl 1 ro w g Q1 t.keys) (h1000:t.keys.length≤1000):
  Calls prog 147 #[.pointer (some ⟨g,0,none⟩),.agg #[.slice Q1 t.keys.length q1,.slice Q2 t.kinds.length q2,.slice Q3 t.acts.length q3,.int .i64 t.run.act,.slice Q4 t.run.args.length q4]] w fun e w'=>∃ v,e=.returned v∧lP w' w.heap.size v (oy p t)∧Below w.heap.size w w':=by
 have lt:=h.lt
 have hkl:=hk.len
 obtain ⟨wa,hwa,hsa,hba,hca,-⟩:=ak w #[.slice Q1 t.keys.length q1,.slice Q2 t.kinds.length q2,.slice Q3 t.acts.length q3,.int .i64 t.run.act,.slice Q4 t.run.args.length q4] 108
 obtain ⟨b0,b1,b2,b3,b4⟩:=rB hca
 have hl0:w.heap.size<wa.heap.size:=by omega
 have hY:=aa (fun (W:World) (hW:Below w.heap.size w W)=>(h.below hW lt).cells13)
 have hPp:=aa (fun (W:World) (hW:Below w.heap.size w W)=>(hP.grgE A1 A2 A3 A4 A5 A6 A7 A8 A9 A10 A11 A12 p c1 c2 c3 c4 c5 c6 c7 c8 c9 c10 c11 c12 (ay.of hW) lt).more (B':=W.heap.size) (Hj (Hs lt) hW.size))
 have hKk:=aa (fun (W:World) (hW:Below w.heap.size w W)=>(hk.grgE aS (ay.of hW) lt).more (B':=W.heap.size) aS (Hj (Hs lt) hW.size))
 have hws:=aa (show oy p t=t.keys.map (fun c=>(fk p (-1) c).getD 0) from rfl)
 generalize oy p t=RES at hws ⊢
 replace hba:=aa hba
 replace hsa:=aa hsa
 clear h hP hk hca
 go_enter func147,ntmps147
 go_wp2
 go_loopw [4,6,7,8,12] (fun v4 _ _ _ i wr=>∃ j:Nat,j≤t.keys.length∧i=.int .i64 j∧Hid (lP wr w.heap.size v4 ((t.keys.take j).map fun c=>(fk p (-1) c).getD 0))∧Hid (Below w.heap.size w wr)) (fun _ _ _ _ i _=>t.keys.length-(intOf i).toNat)
 case atStart=>exact ⟨0,Hm _,rfl,aa (World.ownsRow_nil _ _ _ _),hba⟩
 case round=>
  clear b0 b1 b2 b3 b4 hl0
  obtain ⟨j,hj,rfl,hN,hB⟩:=hrel
  have hzr:=hB.out.size
  have hle:((t.keys.take j).map fun c=>(fk p (-1) c).getD 0).length=j:=by simp [Nat.min_eq_left hj]
  obtain ⟨AV,dV,hAV⟩:=bO hN.out
  rw [hle] at hAV
  replace hle:=aa hle
  subst hAV
  by_cases hlt:j<t.keys.length
  ·have hkz:(j:Int)<(t.keys.length:Int):=by omega
   obtain ⟨cb,oc,A',c',hA1,hcb,hcd,hE⟩:=(hKk.out wr hB.out).code hlt
   subst hA1
   have hnx:=aa (show (t.keys.take (j+1)).map (fun c=>(fk p (-1) c).getD 0)=(t.keys.take j).map (fun c=>(fk p (-1) c).getD 0)++ [(fk p (-1) t.keys[j]).getD 0] from by rw [HR hlt,List.map_append];rfl)
   generalize t.keys[j]=ce at hcd hE hnx
   obtain ⟨y0,y1,y2,y3,y4,y5,y6,y7,y8,y9,y10,y11,y12⟩:=hY.out wr hB.out
   have hX:=aa (iu A1 A2 A3 A4 A5 A6 A7 A8 A9 A10 A11 A12 p c1 c2 c3 c4 c5 c6 c7 c8 c9 c10 c11 c12 (-1) ce A' c' wr (hPp.out wr hB.out) hE)
   unfold Cw at hX
   generalize (fk p (-1) ce).getD 0=y at hX hnx
   generalize (fk p (-1) ce).isSome=is at hX
   have ltr:=He lt hzr
   clear hE
   go_upto_region 5 with (go_at_call 58;refine hX.out.mono ?_;rintro e w3 ⟨rfl,hb3⟩)
   have hB3:=aa (hB.out.trans (hb3.mono hzr))
   have hN3:lP w3 w.heap.size (.slice AV j dV) ((t.keys.take j).map fun c=>(fk p (-1) c).getD 0):=dX hN.out hb3 (Hh _)
   obtain ⟨v',w5,hrun,hN5,hb5⟩:=yk y hN3 hB3.out.size (by simp;omega)
   rw [←hnx.out] at hN5
   replace hN5:=aa hN5
   have hB5:=aa (hB3.out.trans hb5)
   clear hN3 hN hB hB3 hb5 hX hcd y0 y1 y2 y3 y4 y5 y6 y7 y8 y9 y10 y11 y12 hb3
   go_wp2
   go_roundw
   case rel=>exact ⟨j+1,by omega,by go_num,hN5,hB5⟩
   case measure=>simp [intOf];omega
  ·have hje:j=t.keys.length:=by omega
   subst hje
   have hN':=hN.out
   rw [HZ,←hws.out] at hN'
   replace hN':=aa hN'
   clear hN
   go_wp2
   go_ret
   exact ⟨_,rfl,hN'.out,hB.out⟩
end
end Go.Proofs.YtiebolhmdhdagaaGreatDoor

import Derived.Test.YtiebolhmdhdagaaGreatDoorEwp41
import Derived.Test.YtiebolhmdhdagaaGreatDoorEwp42
import Derived.ProofKit
import Derived.Deep.Slices
set_option linter.all false
set_option maxHeartbeats 16000000
set_option maxRecDepth 100000
open Go.Proofs.Tryz
namespace Go.Proofs.YtiebolhmdhdagaaGreatDoor
open _root_.Nat renaming lt_of_lt_of_le→He, le_refl→Hh, le_trans→Hj, zero_le→Hm, add_zero→HU
open _root_.Go.RowKit.Below renaming refl→Hf
open _root_.Go.Calls renaming regrown_of→Hi
open _root_.Bool renaming and_eq_true→Hl
open _root_.List renaming getElem?_eq_getElem→Hn, getElem_mem→Ho, length_cons→Hp, getElem_of_mem→Hw, mem_cons→HD, range→HJ, map_cons→HL, mem_map→HN, mem_range→HO, getElem?_eq_some_iff→HV, mem_append→H0
section
open Go.RowKit Go.Lib
theorem je (A1 A2 A3 A4 A5 A6 A7 A8 A9 A10 A11 A12:Option Addr) (p:Lp) (c1 c2 c3 c4 c5 c6 c7 c8 c9 c10 c11 c12:Nat) (ASW:Option Addr) (cSW:Nat) (sw:List ByteArray) (AE:Option Addr) (cE:Nat) (l:List (List aR)) (mm:Int) (w:World) (h:cJ w w.heap.size A1 A2 A3 A4 A5 A6 A7 A8 A9 A10 A11 A12 p) (hE:p.emit.length≤c7) (hok:DS p) (hnt:∀ x∈p.nt,x.size≤1048576) (hna:∀ x∈p.na,x.size≤1048576) (hsw:Sl 1 bZ w w.heap.size ASW sw) (hle:Sl 1 fh w w.heap.size AE l)
  (hV:iA w) (hpw:jD w) (hpl:3<w.heap.size) (hml:2<w.heap.size) (hm:w.cell? ⟨2,0,none⟩=some (.int .i64 mm)):
  Calls prog 3 #[.agg #[.slice A1 p.heads.length c1,.slice A2 p.metas.length c2,.slice A3 p.steps.length c3,.slice A4 p.acts.length c4,.slice A5 p.tabs.length c5,.slice A6 p.control.length c6,.slice A7 p.emit.length c7,.slice A8 p.nh.length c8,.slice A9 p.nf.length c9,.slice A10 p.nm.length c10,.slice A11 p.na.length c11,.slice A12 p.nt.length c12],.slice ASW sw.length cSW,.slice AE l.length cE] w fun e w'=>e=.returned (.bool true)∧Below w.heap.size w w':=by
 have ls:=hsw.len
 have le:=hle.len
 have hEk:∀ x∈l,xB x:=fun x hx e he=>by
  obtain ⟨i,hi,rfl⟩:=Hw hx
  obtain ⟨_,_,_,_,_,_,_,hEl⟩:=hle.ents hi
  obtain ⟨j,hj,rfl⟩:=Hw he
  obtain ⟨_,_,_,_,_,_,_,_,_,_,_,_,_,_,hs1,hs2⟩:=hEl.ent hj
  exact ⟨hs1.okPts,hs2.okNus⟩
 obtain ⟨wa,hwa,hsa,hba,hca,-⟩:=ak w #[.slice A1 p.heads.length c1,.slice A2 p.metas.length c2,.slice A3 p.steps.length c3,.slice A4 p.acts.length c4,.slice A5 p.tabs.length c5,.slice A6 p.control.length c6,.slice A7 p.emit.length c7,.slice A8 p.nh.length c8,.slice A9 p.nf.length c9,.slice A10 p.nm.length c10,.slice A11 p.na.length c11,.slice A12 p.nt.length c12] 33
 have lwa:w.heap.size<wa.heap.size:=by omega
 have hP:=aa (fun (W:World) (hW:Below wa.heap.size wa W)=>((h.below hba).below (hW.mono hba.size)).more (Hj hba.size hW.size))
 have hS:=aa (fun (W:World) (hW:Below wa.heap.size wa W)=>((hsw.below av hba).below av (hW.mono hba.size)).more av (Hj hba.size hW.size))
 have hL:=aa (fun (W:World) (hW:Below wa.heap.size wa W)=>((hle.below aQ hba).below aQ (hW.mono hba.size)).more aQ (Hj hba.size hW.size))
 have hL0:=aa (fun (W:World) (hW:Below wa.heap.size wa W)=>(hle.below aQ hba).below aQ (hW.mono hba.size))
 have hY:=aa (fun (W:World) (hW:Below wa.heap.size wa W)=>fun i=>(bH hW w.heap.size i (by omega)).trans (hca i))
 have hfin:=aa (fun (W:World) (hW:Below wa.heap.size wa W)=>hba.trans (hW.mono hba.size))
 have hVW:=aa (fun (W:World) (hW:Below wa.heap.size wa W)=>hV.below (hba.trans (hW.mono hba.size)) (Hh _))
 have hpW:=aa (fun (W:World) (hW:Below wa.heap.size wa W)=>hpw.below (hba.trans (hW.mono hba.size)) hpl)
 have hMW:=aa (fun (W:World) (hW:Below wa.heap.size wa W)=>((hba.trans (hW.mono hba.size)).cell (p:=⟨2,0,none⟩) hml).trans hm)
 have hlW:=aa (fun (W:World) (hW:Below wa.heap.size wa W)=>(Hj hba.size hW.size:w.heap.size≤W.heap.size))
 have hKn:=aa (fun (W:World) (hW:Below wa.heap.size wa W)=>(tG W mm (hVW.out W hW) (hMW.out W hW) (He hml (hlW.out W hW))).mono fun e w' g=>(⟨g.1,hW.trans (g.2.mono hW.size)⟩:e=.returned (.bool true)∧Below wa.heap.size wa w'))
 have hG1:=aa (vj A1 A2 A3 A4 A5 A6 A7 A8 A9 A10 A11 A12 p c1 c2 c3 c4 c5 c6 c7 c8 c9 c10 c11 c12 ASW cSW sw ⟨#[]⟩ wa (hP.out wa (Hf _ _)) (hS.out wa (Hf _ _)))
 have hG2:=aa (fun (W:World) (hW:Below wa.heap.size wa W)=>DE AE cE l W (hL.out W hW))
 replace hsa:=aa hsa
 replace hpl:=aa hpl
 replace hml:=aa hml
 replace hok:=aa hok
 replace hEk:=aa hEk
 replace hnt:=aa hnt
 replace hna:=aa hna
 obtain ⟨y0,y1,y2,y3,y4,y5,y6,y7,y8,y9,y10,y11⟩:=aC hca
 clear h hsw hle hba hca hV hpw hm
 go_enter func3,ntmps3
 go_upto_region 1 with fail
 go_cut [18] (fun v wx=>(∃ b,v=.bool b∧(b=false→sw.length≤12∧∀ x∈sw,x.size≤40))∧Hid (Below wa.heap.size wa wx))
 case first=>
  generalize jd l=GE at hG2
  go_wp2_with (first|(go_at_call 4;refine hG1.out.mono ?_;rintro e w3 ⟨⟨b,rfl,hb12⟩,hb3⟩;cases b)|(go_at_call 5;refine (hG2.out _ hb3).mono ?_;rintro e w4 ⟨rfl,rfl⟩))
  ·go_meet
   exact ⟨⟨GE,rfl,fun _=>by first|exact hb12 rfl|exact hb12 trivial⟩,aa hb3⟩
  ·go_meet
   exact ⟨⟨true,rfl,by simp⟩,aa hb3⟩
 case rest=>
  obtain ⟨⟨b,rfl,hb12⟩,hb3⟩:=hcut
  obtain ⟨w3,rfl⟩:∃ w3:World,w3=wc:=⟨_,rfl⟩
  clear hG1 hG2 y0 y1 y2 y3 y4 y5 y6 y7 y8 y9 y10 y11
  cases b with
  |false=>
   obtain ⟨hq,h40⟩:=(show sw.length≤12∧∀ x∈sw,x.size≤40 from by first|exact hb12 rfl|exact hb12 trivial)
   replace h40:=aa h40
   clear hb12
   go_wp2
   go_loopw [7,8,22] (fun _ _ v22 wr=>∃ (i:Nat),v22=.int .i64 (i:Int)∧i≤l.length∧Hid (Below wa.heap.size wa wr)) (fun _ _ v22 _=>l.length-(RowKit.intOf v22).toNat)
   case atStart=>exact ⟨0,rfl,Hm _,hb3⟩
   case round=>
    clear hb3
    obtain ⟨i,rfl,hi,hT⟩:=hrel
    have hTz:=hT.out.size
    by_cases hil:i<l.length
    focus
     have hiz:(i:Int)<(l.length:Int):=by omega
     have dk:decide ((i:Int)<(l.length:Int))=true:=decide_eq_true hiz
     have h0l:0<l.length:=by omega
     have h0z:(0:Int)<(l.length:Int):=by omega
     obtain ⟨eb,eo,EA,ec,hA2,heb,hec,hEl⟩:=(hL0.out wr hT.out).ents hil
     obtain ⟨eb',eo',E0,ec0,hA3,heb0,hec0,hEl0⟩:=(hL0.out wr hT.out).ents h0l
     subst hA2
     injection hA3 with hA3
     injection hA3 with e1 e2 e3
     subst e1 e2
     rw [HU] at hec0
     obtain ⟨y0,y1,y2,y3,y4,y5,y6,y7,y8,y9,y10,y11⟩:=aC (hY.out wr hT.out)
     have hgl:=He lwa hTz
     have hebr:=He heb (hlW.out wr hT.out)
     have hgw:=aE (show Below wr.heap.size wr wr from Hf _ _) (Hh _)
     have hX:=aa (fun (W:World) (hW:Below wr.heap.size wr W)=>(hEl.keep bh fun q hq=>hW.cell (He hq (hlW.out wr hT.out))).more bh (Hj (hlW.out wr hT.out) hW.size))
     have hX0:=aa (fun (W:World) (hW:Below wr.heap.size wr W)=>(hEl0.keep bh fun q hq=>hW.cell (He hq (hlW.out wr hT.out))).more bh (Hj (hlW.out wr hT.out) hW.size))
     have hPr:=aa (fun (W:World) (hW:Below wr.heap.size wr W)=>hP.out W (hT.out.trans (hW.mono hTz)))
     have hee:=vW (p:=p) hok.out (fun e he=>(hEk.out _ (Ho hil) e he).1)
     have hM1:=aa (fun (W:World) (hW:Below wr.heap.size wr W)=>tm A1 A2 A3 A4 A5 A6 A7 A8 A9 A10 A11 A12 p c1 c2 c3 c4 c5 c6 c7 c8 c9 c10 c11 c12 EA ec l[i] W (hPr.out W hW) (hX.out W hW))
     have hM2:=aa (fun (W:World) (hW:Below wr.heap.size wr W)=>od A1 A2 A3 A4 A5 A6 A7 A8 A9 A10 A11 A12 p c1 c2 c3 c4 c5 c6 c7 c8 c9 c10 c11 c12 EA ec l[i] W (hPr.out W hW) hE hok.out (hX.out W hW))
     have hS1:=aa (fun (W:World) (hW:Below wr.heap.size wr W)=>qg l[i] l[0] EA E0 ec ec0 W (hX.out W hW) (hX0.out W hW))
     have hS2:=aa (fun (W:World) (hW:Below wr.heap.size wr W)=>p9 l[i] l[0] EA E0 ec ec0 W (hX.out W hW) (hX0.out W hW))
     have hS3:=aa (fun (W:World) (hW:Below wr.heap.size wr W)=>(qg l[i] l[i] EA EA ec ec W (hX.out W hW) (hX.out W hW)).mono fun e w' g=>(⟨by rw [g.1,nG],g.2⟩:e=.returned (.bool true)∧Below W.heap.size W w'))
     clear hEl hEl0 hX hX0 hPr
     rw [hee] at hM1
     generalize rO p l[i]=M at hM1 hM2
     generalize pC l[i] l[0]=S at hS1 hS2
     have dM:(M !=M)=false:=bne_self_eq_false _
     have dM2:(M==M)=true:=beq_self_eq_true _
     have dS2:(S==S)=true:=beq_self_eq_true _
     have dS:(S !=S)=false:=bne_self_eq_false _
     generalize l[i].length=n1 at*
     generalize l[0].length=n0 at*
     go_wp2_with fail
     refine bV ?_
     repeat (any_goals (first|go_big_quiet_step (first|(go_at_call 7;with_reducible exact Hi (hM1.out _ (below_regrown wr _ _)))|(go_at_call 8;with_reducible exact Hi (hM2.out _ (below_regrown wr _ _)))|(go_at_call 10;with_reducible exact Hi (hS2.out _ (below_regrown wr _ _)))|(go_at_call 9;with_reducible exact Hi (hS1.out _ (below_regrown wr _ _)))|(go_at_call 9;with_reducible exact Hi (hS3.out _ (below_regrown wr _ _))))|quiet_step (first|(go_at_call 7;with_reducible exact Hi (hM1.out _ (below_regrown wr _ _)))|(go_at_call 8;with_reducible exact Hi (hM2.out _ (below_regrown wr _ _)))|(go_at_call 10;with_reducible exact Hi (hS2.out _ (below_regrown wr _ _)))|(go_at_call 9;with_reducible exact Hi (hS1.out _ (below_regrown wr _ _)))|(go_at_call 9;with_reducible exact Hi (hS3.out _ (below_regrown wr _ _))))))
     refine wpQuiet_nil ?_
     intro w7 hw7
     replace hw7:=ac hw7
     go_wp2
     go_roundw
     ·exact ⟨i+1,by go_num,hil,aa (hT.out.trans (hw7.mono hTz))⟩
     ·simp [RowKit.intOf];omega
    rotate_right
    focus
     obtain rfl:i=l.length:=by omega
     have dk:decide ((l.length:Int)<(l.length:Int))=false:=decide_eq_false (by omega)
     clear hL0
     have hns:∀ x∈sw,x.size≤1048576:=fun x hx=>Hj (h40.out x hx) (by decide)
     have hTx:=aa (fun (W:World) (hW:Below wa.heap.size wa W)=>Do A1 A2 A3 A4 A5 A6 A7 A8 A9 A10 A11 A12 p c1 c2 c3 c4 c5 c6 c7 c8 c9 c10 c11 c12 ASW cSW sw AE cE l mm W (hP.out W hW) (hS.out W hW) (hL.out W hW) hns hnt.out hna.out (by omega) (hpW.out W hW) (He hpl.out (hlW.out W hW)) (He hml.out (hlW.out W hW)) (hMW.out W hW))
     have hRx:=aa (fun (W:World) (hW:Below wa.heap.size wa W)=>DD A1 A2 A3 A4 A5 A6 A7 A8 A9 A10 A11 A12 p c1 c2 c3 c4 c5 c6 c7 c8 c9 c10 c11 c12 ASW cSW sw AE cE l W (hP.out W hW) hE hok.out (hS.out W hW) (hL.out W hW) hns hnt.out hna.out (by omega))
     have hlen:=aa (vi hEk.out hns hnt.out hna.out hq)
     have hTE0:=aa (fun h=>tL (p:=p) (sw:=sw) (l:=l) h)
     have hTE1:=aa (fun h=>oe (f:=aV p) (p:=p) (sw:=sw) (l:=l) h)
     have hBk:=aa (fun hm h1 h2 h3 h4 h5=>xC (p:=p) (sw:=sw) (l:=l) hm h1 h2 h3 h4 hEk.out h5)
     generalize cR (aV p) p sw l=TE at hTx hRx hlen hTE0 hTE1 hBk
     obtain ⟨TX,hTX⟩:∃ TX:ByteArray,TX=⟨TE.toArray⟩:=⟨_,rfl⟩
     rw [←hTX] at hTx hRx
     have hTXl:TX.data.toList=TE:=by rw [hTX]
     have hTXs:TX.size=TE.length:=by rw [hTX];simp [ByteArray.size]
     have hTXe:TX=D9↔TE= []:=by
      rw [hTX]
      constructor
      ·intro h
       have:=congrArg (fun x:ByteArray=>x.data.toList) h
       simpa [D9] using this
      ·intro h;rw [h];rfl
     clear hTX
     replace hTXl:=aa hTXl
     replace hTXs:=aa hTXs
     obtain ⟨y0,y1,y2,y3,y4,y5,y6,y7,y8,y9,y10,y11⟩:=aC (hY.out wr hT.out)
     have hgl:=He lwa hTz
     have hTxr:=aa (hTx.out wr hT.out)
     clear hTx hns
     go_upto_region 10 with (go_at_call 11;refine hTxr.out.mono ?_;rintro e w5 ⟨rfl,hb5⟩)
     have hT5:=aa (hT.out.trans (hb5.mono hTz))
     clear y0 y1 y2 y3 y4 y5 y6 y7 y8 y9 y10 y11 hgl hTxr hb5 hT hTz
     obtain ⟨y0,y1,y2,y3,y4,y5,y6,y7,y8,y9,y10,y11⟩:=aC (hY.out w5 hT5.out)
     have hgl:=He lwa hT5.out.size
     have hRxr:=aa (hRx.out w5 hT5.out)
     have dTX:=j0 (rfl:TX=TX)
     clear hRx
     go_upto_region 12 with (go_at_call 12;refine hRxr.out.mono ?_;rintro e w6 ⟨rfl,hb6⟩)
     have hT6:=aa (hT5.out.trans (hb6.mono hT5.out.size))
     clear y0 y1 y2 y3 y4 y5 y6 y7 y8 y9 y10 y11 hgl hRxr hb6 hT5
     obtain ⟨y0,y1,y2,y3,y4,y5,y6,y7,y8,y9,y10,y11⟩:=aC (hY.out w6 hT6.out)
     have hgl:=He lwa hT6.out.size
     by_cases hTE:TE= []
     focus
      have dE:(TX.toList== [])=true:=by rw [lT.1 (hTXe.2 hTE)];rfl
      have dE2:TX.toList.isEmpty=true:=by rw [lT.1 (hTXe.2 hTE)];rfl
      replace hTE:=aa hTE
      go_wp2_with (go_at_call 6;refine (hKn.out _ hT6.out).mono ?_;rintro e w7 ⟨rfl,hb7⟩)
      go_ret
      exact ⟨rfl,hfin.out _ hb7⟩
     rotate_right
     focus
      have dE:(TX.toList== [])=false:=by rw [beq_eq_false_iff_ne];exact fun h=>hTE (hTXe.1 (lT.2 h))
      have dE2:TX.toList.isEmpty=false:=by rw [Bool.eq_false_iff];exact fun h=>hTE (hTXe.1 (lT.2 (List.isEmpty_iff.1 h)))
      have hNm:=aa (BY A1 A2 A3 A4 A5 A6 A7 A8 A9 A10 A11 A12 p c1 c2 c3 c4 c5 c6 c7 c8 c9 c10 c11 c12 w6 (hP.out w6 hT6.out))
      replace hTE:=aa hTE
      cases hNB:(lS p.nt&&lS p.na)
      rw [hNB] at hNm
      rotate_right
      focus
       rw [hNB] at hNm
       by_cases h8:8<sw.length
       have d8:decide ((8:Int)<(sw.length:Int))=true:=decide_eq_true (by omega)
       have d8':decide (8<sw.length)=true:=decide_eq_true h8
       rotate_right
       focus
        have d8:decide ((8:Int)<(sw.length:Int))=false:=decide_eq_false (by omega)
        have d8':decide (8<sw.length)=false:=decide_eq_false h8
        go_upto_region 14 with (go_at_call 13;refine hNm.out.mono ?_;rintro e w7 ⟨rfl,hb7⟩)
        have hT7:=aa (hT6.out.trans (hb7.mono hT6.out.size))
        clear y0 y1 y2 y3 y4 y5 y6 y7 y8 y9 y10 y11 hgl hb7 hT6 hNm
        obtain ⟨y0,y1,y2,y3,y4,y5,y6,y7,y8,y9,y10,y11⟩:=aC (hY.out w7 hT7.out)
        have hgl:=He lwa hT7.out.size
        have hmay:=hTE0.out hTE.out
        obtain ⟨hll,hoks,-⟩:=hTE1.out hTE.out
        have hsz:TX.size<4611686018427387904:=by have:=hlen.out;have:=hTXs.out;omega
        replace hsz:=aa hsz
        by_cases hlong:65536<TE.length
        ·have hRd:=aa (yV A1 A2 A3 A4 A5 A6 A7 A8 A9 A10 A11 A12 p c1 c2 c3 c4 c5 c6 c7 c8 c9 c10 c11 c12 ASW cSW sw TX 3 0 w7 (hP.out w7 hT7.out) hmay (by omega) hsz.out (hVW.out w7 hT7.out) (by rw [hTXl.out];exact BZ hlong) (by decide))
         unfold dg at hRd
         generalize (be (List.take 0 TX.data.toList)).1=pa at hRd
         generalize (be (List.take 0 TX.data.toList)).2=pb at hRd
         have dl:decide ((65536:Int)<(TX.size:Int))=true:=decide_eq_true (by have:=hTXs.out;omega)
         have dl':decide (65536<TX.size)=true:=decide_eq_true (by have:=hTXs.out;omega)
         replace hlong:=aa hlong
         replace hll:=aa hll
         replace hmay:=aa hmay
         replace hoks:=aa hoks
         go_upto_region 15 with (go_at_call 14;refine hRd.out.mono ?_;rintro e w8 ⟨rfl,hb8⟩)
         obtain ⟨wb,hwb,hsb,hbb,hcb,-⟩:=ak w8 #[.int .i64 3,.int .i64 (pa:Int),.int .i64 (pb:Int)] 47
         rw [hwb]
         have f0:=hcb 0
         simp at f0
         have hB9:=aa (hT7.out.trans ((hb8.trans (hbb.mono hb8.size)).mono hT7.out.size))
         have lf:w8.heap.size<wb.heap.size:=by omega
         replace hsb:=aa hsb
         replace hwb:=aa hwb
         clear hcb hbb hb8 y0 y1 y2 y3 y4 y5 y6 y7 y8 y9 y10 y11 hgl
         go_wp2_with (go_at_call 6;refine (hKn.out _ hB9.out).mono ?_;rintro e w9 ⟨rfl,hb9⟩)
         go_ret
         exact ⟨rfl,hfin.out _ hb9⟩
        ·have hnn:=hNB
         rw [Hl] at hnn
         obtain ⟨r,hlx,hall⟩:=hBk.out hmay (BX hnn.1) (BX hnn.2) hll hoks (by omega)
         have hRd:=aa (tF A1 A2 A3 A4 A5 A6 A7 A8 A9 A10 A11 A12 p c1 c2 c3 c4 c5 c6 c7 c8 c9 c10 c11 c12 ASW cSW sw TX r l (r.length+1) mm w7 (hP.out w7 hT7.out) hmay (by omega) (hS.out w7 hT7.out) hsz.out (hVW.out w7 hT7.out) (He hml.out (hlW.out w7 hT7.out)) (hMW.out w7 hT7.out) (by rw [hTXl.out];exact hlx) hall)
         have dl:decide ((65536:Int)<(TX.size:Int))=false:=decide_eq_false (by have:=hTXs.out;omega)
         have dl':decide (65536<TX.size)=false:=decide_eq_false (by have:=hTXs.out;omega)
         replace hlong:=aa hlong
         replace hll:=aa hll
         replace hmay:=aa hmay
         replace hoks:=aa hoks
         replace hlx:=aa hlx
         replace hall:=aa hall
         go_upto_region 15 with (go_at_call 14;refine hRd.out.mono ?_;rintro e w8 ⟨AR,rfl,-,hsR,hb8⟩)
         obtain ⟨wb,hwb,hsb,hbb,hcb,-⟩:=ak w8 #[.int .i64 0,.int .i64 0,.int .i64 0] 47
         rw [hwb]
         have f0:=hcb 0
         have f1:=hcb 1
         have f2:=hcb 2
         simp at f0 f1 f2
         have hB9:=aa (hT7.out.trans ((hb8.trans (hbb.mono hb8.size)).mono hT7.out.size))
         have lf:w8.heap.size<wb.heap.size:=by omega
         have hSA:=aa (show Calls prog 15 #[.slice AE l.length cE,.slice AR sw.length sw.length] wb fun e w'=>e=.returned (.bool true)∧Below wb.heap.size wb w' from by
          have h:=jQ l l AE AR cE sw.length wb (hL.out wb hB9.out) ((hsR.below aQ hbb).more aQ hbb.size) rfl
          rw [show (Value.slice AR l.length sw.length)=Value.slice AR sw.length sw.length from by rw [hll.out]] at h
          exact h)
         replace hsb:=aa hsb
         replace hwb:=aa hwb
         clear hcb hbb hb8 hsR y0 y1 y2 y3 y4 y5 y6 y7 y8 y9 y10 y11 hgl
         go_wp2_with (first|(go_at_call 15;refine hSA.out.mono ?_;rintro e w9 ⟨rfl,hb9⟩;have hB10:=hB9.out.trans (hb9.mono hB9.out.size))|(go_at_call 6;refine (hKn.out _ hB10).mono ?_;rintro e w10 ⟨rfl,hb10⟩))
         go_ret
         exact ⟨rfl,hfin.out _ hb10⟩
    all_goals
     go_wp2_with (first|(go_at_call 13;refine hNm.out.mono ?_;rintro e w7 ⟨rfl,hb7⟩;have hT7:=hT6.out.trans (hb7.mono hT6.out.size))|(go_at_call 6;refine (hKn.out _ hT7).mono ?_;rintro e w8 ⟨rfl,hb8⟩))
     go_ret
     exact ⟨rfl,hfin.out _ hb8⟩
  |true=>
   go_wp2_with (go_at_call 6;refine (hKn.out _ hb3.out).mono ?_;rintro e w5 ⟨rfl,hb5⟩)
   go_ret
   exact ⟨rfl,hfin.out _ hb5⟩
end
section
open Go.ChangeShapes Go.WideShapes Go.ChangeAt Go.RowKit Go.Deep
def Rd {α:Type} (t:TypeId) (R:CR α):Prop:=
 ∀ (H:Type) (enc:TypeId×Value→H) (w:World) (fuel:Nat) (cs:List Value) (x:DataW H×List MemPlace),DataW.trod enc prog w 0 (fun _=>true) true fuel t cs=some x→∃ a,R w w.heap.size cs a
theorem EW {t:TypeId} (ht:prog.underlying t=some (.int .i64)):Rd t bd:=fun _ _ _ _ _ _ h=>by
 obtain ⟨n,rfl,_,_⟩:=DataW.trod_int ht h
 exact ⟨n,rfl⟩
theorem EX {t:TypeId} (ht:prog.underlying t=some .string):Rd t bZ:=fun _ _ _ _ _ _ h=>by
 obtain ⟨s,rfl,_,hs⟩:=DataW.trod_string ht h
 exact ⟨s,rfl,hs⟩
theorem zb {w:World} {a:Addr} {v:Value} (h:w.cell? a=some v):∃ b o,a=⟨b,o,none⟩:=by
 obtain ⟨b,o,spot⟩:=a
 cases spot with
 |none=>exact ⟨b,o,rfl⟩
 |some s=>simp [World.cell?] at h;split at h<;>cases h
theorem lF {α:Type} {p:Nat→α→Prop}:∀ len:Nat,(∀ i,i<len→∃ a,p i a)→∃ xs:List α,xs.length=len∧∀ i x,xs[i]? =some x→p i x
 |0,_=>⟨[],rfl,fun i x h=>by simp at h⟩
 |len+1,h=>by
  obtain ⟨xs,h1,h2⟩:=lF len (fun i hi=>h i (by omega))
  obtain ⟨a,ha⟩:=h len (by omega)
  refine ⟨xs++ [a],by simp [h1],fun i x hx=> ?_⟩
  by_cases hi:i<len
  ·rw [List.getElem?_append_left (by omega)] at hx
   exact h2 i x hx
  ·have hil:i=len:=by
    have:=(HV.1 hx).1
    simp [h1] at this;omega
   subst hil
   rw [List.getElem?_append_right (by omega),h1] at hx
   simp at hx
   subst hx
   exact ha
theorem vk {H:Type} {enc:TypeId×Value→H} {P:Program} {f:Func} {s:ChangeSpec} {apart fresh handsOn:Bool} {W W':World} {args:Array Value} {v:Value} {ds gs:List (DataW H)} {before pa pv:List MemPlace}
  (hW:DataW.Whole enc P f.params.toList s.vars apart W args.toList ds gs before)
  (hres:∀ (b:Nat) (sp:Nat→Bool) (hd:Bool),DataW.TrodAll enc P W' b sp hd f.resultTypes.toList (v.resultList f.resultTypes.size) (s.fn H (ds++gs)).results [])
  (hargs:DataW.TrodAll enc P W' 0 (fun b=>decide (b<W.heap.size)) true f.params.toList args.toList (s.fn H (ds++gs)).args pa)
  (hvars:DataW.TrodVars enc P W' (fun b=>decide (b<W.heap.size)) s.vars (s.fn H (ds++gs)).vars pv)
  (hps:before=pa++pv) (hb:Below W.heap.size W W'):s.post enc P f apart fresh handsOn false W args v W':=by
 have hlt:∀ p∈before,p.block<W.heap.size:=fun p hp=>hW.lt p hp
 refine ⟨ds,gs,before,[],pa,pv,hW,hres _ _ _,hargs,hvars,World.keptBut_mono (fun p hp=>⟨hp,?_⟩) (hb.frame (· ∈before)),fun h=>by cases h⟩
 rw [hps,H0] at hp
 exact Or.inr hp
end
section
open Go.ChangeShapes Go.WideShapes Go.ChangeAt Go.RowKit Go.Deep
def iN {α:Type} (m:Nat) (t:TypeId) (R:CR α):Prop:=
 ∀ (H:Type) (enc:TypeId×Value→H) (w:World) (fuel:Nat) (cs:List Value) (x:DataW H×List MemPlace),DataW.trod enc prog w 0 (fun _=>true) true fuel t cs=some x→Rows.uptoBulk x.1≤m→∃ a,R w w.heap.size cs a
theorem B8 {α:Type} {m:Nat} {t:TypeId} {R:CR α} (h:Rd t R):iN m t R:=fun H enc w fuel cs x hx _=>h H enc w fuel cs x hx
theorem tN {H:Type} {d:DataW H}:∀ {l:List (DataW H)},d∈l→Rows.uptoBulk d≤Rows.uptoBulkAll l
 | [],h=>by simp at h
 |y::l,h=>by
  simp only [Rows.uptoBulkAll]
  rcases HD.1 h with rfl|h
  ·omega
  ·have:=tN h;omega
def B9 (m:Nat):CR ByteArray:=fun _ _ cs s=>cs= [.string s]∧s.size≤maxLen∧s.size≤m
theorem DH {m:Nat} {t:TypeId} (ht:prog.underlying t=some .string):iN m t (B9 m):=fun _ _ _ _ _ _ h hb=>by
 obtain ⟨s,rfl,hx,hs⟩:=DataW.trod_string ht h
 refine ⟨s,rfl,hs,?_⟩
 rw [hx] at hb
 simp only [Rows.uptoBulk] at hb
 have:s.data.toList.length=s.size:=rfl
 omega
theorem zc {α:Type} {R:CR α} {t e:TypeId} {k m:Nat} (ht:prog.underlying t=some (.slice e)) (hk:prog.cellsOf e=k) (hk0:0<k) (he:iN m e R):iN (m+1) t (oD k R):=fun H enc w fuel cs x h hb=>by
 rcases open_slice ht h with ⟨rfl,_⟩|⟨a,len,cap,mm,n,D,Pl,rfl,_,hl,hm,hmm,hxx,hx⟩
 ·exact ⟨[],none,0,rfl,Sl.nil_⟩
 ·simp only [if_true] at hmm
  subst hmm
  have hbD:∀ i,i<len→Rows.uptoBulk (D i)≤m:=fun i hi=>by
   rw [hxx] at hb
   simp only [Rows.uptoBulk] at hb
   have:=tN (d:=D i) (l:=(HJ len).map D) (HN.2 ⟨i,HO.2 hi,rfl⟩)
   omega
  obtain ⟨xs,hlen,hxs⟩:=lF (p:=fun i y=>∃ ecs:List Value,ecs.length=k∧(∀ j,j<k→w.cell? ((a.add (i*k)).add j)=ecs[j]?)∧R w w.heap.size ecs y) len (fun i hi=>by
   obtain ⟨cs',hc,htr⟩:=hx i (by omega)
   rw [hk] at hc
   obtain ⟨_,h1,h2⟩:=World.cells?_some hc
   obtain ⟨y,hy⟩:=he H enc w n cs' _ htr (hbD i hi)
   exact ⟨y,cs',h1,h2,hy⟩)
  refine ⟨xs,some a,mm,by rw [hlen],by omega,fun i y hy=> ?_⟩
  have hi:i<len:=by rw [←hlen];exact (HV.1 hy).1
  obtain ⟨ecs0,g1,g2,_⟩:=hxs 0 (xs[0]'(by omega)) (Hn (by omega))
  have hz:w.cell? a=some (ecs0[0]'(by omega)):=by
   have:=g2 0 hk0
   rw [Hn (by omega)] at this
   simpa [Addr.add] using this
  obtain ⟨b,o,rfl⟩:=zb hz
  have hb:=World.block_lt_of_cell? w _ hz
  obtain ⟨ecs,h1,h2,h3⟩:=hxs i y hy
  have hadd:∀ j,((⟨b,o,none⟩:Addr).add (i*k)).add j=⟨b,o+i*k+j,none⟩:=fun j=>by unfold Addr.add;split<;>split<;>simp_all
  refine ⟨b,o,ecs,rfl,hb,h1,fun j u hu=> ?_,h3⟩
  have hj:j<k:=by have:=(HV.1 hu).1;omega
  rw [←hadd j,h2 j hj,hu]
theorem ap {H:Type} (d:DataW H):1≤Rows.uptoBulk d:=by
 cases d with
 |lit l=>cases l<;>simp [Rows.uptoBulk]
 |_=>simp [Rows.uptoBulk]
theorem Sl.imp {α:Type} {R R':CR α} {k:Nat} {w:World} {B:Nat} {A:Option Addr} {xs:List α} (h:Sl k R w B A xs) (hi:∀ cs x,R w B cs x→R' w B cs x):Sl k R' w B A xs:=
 ⟨h.1,fun i x hx=>by
  obtain ⟨b,o,ecs,h1,h2,h3,h4,h5⟩:=h.2 i x hx
  exact ⟨b,o,ecs,h1,h2,h3,h4,hi _ _ h5⟩⟩
end
section
open Go.ChangeShapes Go.WideShapes Go.ChangeAt Go.RowKit Go.Deep
theorem DI {n:Int} (h:(Lit.int .u64 n).wf=true):aI n:=by
 simp [Lit.wf,IntKind.min,IntKind.max,IntKind.signed,IntKind.bits] at h
 unfold aI;omega
theorem EY {n:Int} (h:(Lit.int .u8 n).wf=true):u8 n:=by
 simp [Lit.wf,IntKind.min,IntKind.max,IntKind.signed,IntKind.bits] at h
 unfold u8;omega
def FX:CR Int:=fun _ _ cs n=>cs= [.int .u64 n]∧aI n
def GV:CR Int:=fun _ _ cs n=>cs= [.int .u8 n]∧u8 n
theorem cm {m:Nat}:iN m 3 bd:=B8 (EW underlying3)
theorem DJ {m:Nat}:iN m 9 bZ:=B8 (EX underlying9)
theorem wF {m:Nat}:iN m 59 FX:=fun _ _ _ _ _ _ h _=>by
 obtain ⟨n,rfl,_,hw⟩:=DataW.trod_int underlying59 h
 exact ⟨n,rfl,DI hw⟩
theorem vm {m:Nat}:iN m 5 GV:=fun _ _ _ _ _ _ h _=>by
 obtain ⟨n,rfl,_,hw⟩:=DataW.trod_int underlying5 h
 exact ⟨n,rfl,EY hw⟩
theorem Fv {m:Nat}:iN m 5 Ct:=fun H enc w fuel cs x h hb=>by
 obtain ⟨n,e,-⟩:=vm H enc w fuel cs x h hb
 exact ⟨n,e⟩
theorem zd {H:Type} (l:List (DataW H)):l.length≤Rows.uptoBulkAll l:=by
 induction l with
 |nil=>simp [Rows.uptoBulkAll]
 |cons x r ih=>have:=ap x;simp only [Rows.uptoBulkAll,Hp];omega
def FY {α:Type} (m k:Nat) (R:CR α):CR (List α):=fun w B cs xs=>∃ A cap,cs= [.slice A xs.length cap]∧Sl k R w B A xs∧xs.length≤cap∧xs.length≤m
theorem f7 {α:Type} {R:CR α} {t e:TypeId} {k m:Nat} (ht:prog.underlying t=some (.slice e)) (hk:prog.cellsOf e=k) (hk0:0<k) (he:iN m e R):iN m t (FY m k R):=fun H enc w fuel cs x h hb=>by
 obtain ⟨xs,A,cap,e1,hS⟩:=zc ht hk hk0 he H enc w fuel cs x h (Nat.le_succ_of_le hb)
 refine ⟨xs,A,cap,e1,hS,?_⟩
 rcases open_slice ht h with ⟨rfl,_⟩|⟨a,len,cap',mm,n,D,Pl,rfl,_,hl,hm,hmm,hxx,hx⟩
 ·injection e1 with e1 _
  injection e1 with _ e2 e3
  omega
 ·injection e1 with e1 _
  injection e1 with _ e2 e3
  rw [hxx] at hb
  simp only [Rows.uptoBulk] at hb
  have:=zd ((HJ len).map D)
  simp at this
  omega
theorem cF {α:Type} {R:CR α} {t e:TypeId} {k m:Nat} (ht:prog.underlying t=some (.slice e)) (hk:prog.cellsOf e=k) (hk0:0<k) (he:iN m e R):iN m t (oD k R):=fun H enc w fuel cs x h hb=>by
 obtain ⟨xs,A,cap,e1,hS,-⟩:=f7 ht hk hk0 he H enc w fuel cs x h hb
 exact ⟨xs,A,cap,e1,hS⟩
def GW:CR Rn:=fun w B cs x=>∃ A cap,cs= [.int .i64 x.act,.slice A x.args.length cap]∧Sl 2 ke w B A x.args
structure GL where
 nh:List ByteArray
 nf:List (List ByteArray)
 nm:List ByteArray
 na:List ByteArray
 nt:List ByteArray
def FZ:CR GL:=fun w B cs x=>∃ A8 A9 A10 A11 A12 c8 c9 c10 c11 c12,cs= [.slice A8 x.nh.length c8,.slice A9 x.nf.length c9,.slice A10 x.nm.length c10,.slice A11 x.na.length c11,.slice A12 x.nt.length c12]∧Sl 1 bZ w B A8 x.nh∧Sl 1 (oD 1 bZ) w B A9 x.nf∧Sl 1 bZ w B A10 x.nm∧Sl 1 bZ w B A11 x.na∧Sl 1 bZ w B A12 x.nt
def GX:CR Lp:=fun w B cs p=>∃ A1 A2 A3 A4 A5 A6 A7 A8 A9 A10 A11 A12 c1 c2 c3 c4 c5 c6 c7 c8 c9 c10 c11 c12,cs=(#[.slice A1 p.heads.length c1,.slice A2 p.metas.length c2,.slice A3 p.steps.length c3,.slice A4 p.acts.length c4,.slice A5 p.tabs.length c5,.slice A6 p.control.length c6,.slice A7 p.emit.length c7,.slice A8 p.nh.length c8,.slice A9 p.nf.length c9,.slice A10 p.nm.length c10,.slice A11 p.na.length c11,.slice A12 p.nt.length c12]:Array Value).toList∧cJ w B A1 A2 A3 A4 A5 A6 A7 A8 A9 A10 A11 A12 p∧p.emit.length≤c7
theorem co:prog.cellsOf 3=1:=by kernel_rfl
theorem oh:prog.cellsOf 59=1:=by kernel_rfl
theorem kK:prog.cellsOf 5=1:=by kernel_rfl
theorem om:prog.cellsOf 9=1:=by kernel_rfl
theorem jU:prog.cellsOf 61=2:=by kernel_rfl
theorem tO:prog.cellsOf 110=6:=by kernel_rfl
theorem oo:prog.cellsOf 102=1:=by kernel_rfl
theorem oq:prog.cellsOf 147=5:=by kernel_rfl
theorem rh:prog.cellsOf 63=4:=by kernel_rfl
theorem ot:prog.cellsOf 104=2:=by kernel_rfl
theorem tP:prog.cellsOf 100=4:=by kernel_rfl
theorem wG:prog.cellsOf 106=2:=by kernel_rfl
theorem ri:prog.cellsOf 55=2:=by kernel_rfl
theorem wH:prog.cellsOf 108=5:=by kernel_rfl
theorem qh:prog.cellsOf 31=5:=by kernel_rfl
theorem Cb:prog.cellsOf 33=12:=by kernel_rfl
theorem f8:prog.cellsOf 23=1:=by kernel_rfl
theorem ze:prog.cellsOf 22=1:=by kernel_rfl
theorem Cc:prog.cellsOf 53=1:=by kernel_rfl
theorem qj:prog.cellsOf 97=1:=by kernel_rfl
theorem vn:prog.cellsOf 73=1:=by kernel_rfl
theorem eD:prog.cellsOf 28=1:=by kernel_rfl
theorem rj:prog.cellsOf 29=1:=by kernel_rfl
theorem qk:prog.cellsOf 27=1:=by kernel_rfl
theorem tQ:prog.cellsOf 52=1:=by kernel_rfl
theorem tR:prog.cellsOf 98=1:=by kernel_rfl
theorem zg:prog.cellsOf 24=1:=by kernel_rfl
theorem Cd:prog.cellsOf 25=1:=by kernel_rfl
theorem Ce:prog.cellsOf 26=1:=by kernel_rfl
theorem mg {m:Nat} (hm:m≤sm):iN m 61 ke:=fun H enc w fuel cs x h hb=>by
 obtain ⟨xs,n,_,rfl,hl,hlen,hg⟩:=DataW.trod_struct underlying61 h
 rw [jU] at hl
 match xs,hlen with
 | [y0,y1],_=>
  simp only [HL,List.map_nil,Rows.uptoBulk,Rows.uptoBulkAll] at hb
  have p0:=ap y0.1
  have p1:=ap y1.1
  match cs,hl with
  | [a0,a1],_=>
   obtain ⟨v0,e0,h0⟩:=wF (m:=m) H enc w n [a0] y0 (by simpa [oh] using hg 0 _ rfl) (by omega)
   obtain ⟨v1,e1,h1⟩:=wF (m:=m) H enc w n [a1] y1 (by simpa [oh] using hg 1 _ rfl) (by omega)
   cases e0
   cases e1
   exact ⟨(v0,v1),rfl,h0,h1⟩
theorem Cf {m:Nat} (hm:m≤sm):iN m 110 Ab:=fun H enc w fuel cs x h hb=>by
 obtain ⟨xs,n,_,rfl,hl,hlen,hg⟩:=DataW.trod_struct underlying110 h
 rw [tO] at hl
 match xs,hlen with
 | [y0,y1,y2,y3,y4],_=>
  simp only [HL,List.map_nil,Rows.uptoBulk,Rows.uptoBulkAll] at hb
  have p0:=ap y0.1
  have p1:=ap y1.1
  have p2:=ap y2.1
  have p3:=ap y3.1
  have p4:=ap y4.1
  match cs,hl with
  | [a0,a1,a2,a3,a4,a5],_=>
   obtain ⟨v0,e0,h0⟩:=vm (m:=m) H enc w n [a0] y0 (by simpa [kK] using hg 0 _ rfl) (by omega)
   obtain ⟨v1,e1⟩:=cm (m:=m) H enc w n [a1] y1 (by simpa [co] using hg 1 _ rfl) (by omega)
   obtain ⟨v2,e2⟩:=cm (m:=m) H enc w n [a2] y2 (by simpa [co] using hg 2 _ rfl) (by omega)
   obtain ⟨v3,e3⟩:=cm (m:=m) H enc w n [a3] y3 (by simpa [co] using hg 3 _ rfl) (by omega)
   obtain ⟨v4,e4,h4,k4⟩:=mg hm H enc w n [a4,a5] y4 (by simpa [jU] using hg 4 _ rfl) (by omega)
   cases e0
   cases e1
   cases e2
   cases e3
   cases e4
   exact ⟨⟨v0,v1,v2,v3,v4.1,v4.2⟩,rfl,h0,h4,k4⟩
theorem ou {m:Nat} (hm:m≤sm):iN m 102 ro:=cF (m:=m) (t:=102) (e:=110) (k:=6) underlying102 tO (by decide) (Cf hm)
theorem jV {m:Nat}:iN m 23 (oD 1 bd):=cF (m:=m) (t:=23) (e:=3) (k:=1) underlying23 co (by decide) cm
theorem jW {m:Nat}:iN m 28 (oD 1 bZ):=cF (m:=m) (t:=28) (e:=9) (k:=1) underlying28 om (by decide) DJ
theorem tS {m:Nat} (hm:m≤sm):iN m 147 oK:=fun H enc w fuel cs x h hb=>by
 obtain ⟨xs,n,_,rfl,hl,hlen,hg⟩:=DataW.trod_struct underlying147 h
 rw [oq] at hl
 match xs,hlen with
 | [y0,y1,y2,y3,y4],_=>
  simp only [HL,List.map_nil,Rows.uptoBulk,Rows.uptoBulkAll] at hb
  have p0:=ap y0.1
  have p1:=ap y1.1
  have p2:=ap y2.1
  have p3:=ap y3.1
  have p4:=ap y4.1
  match cs,hl with
  | [a0,a1,a2,a3,a4],_=>
   obtain ⟨v0,e0,h0⟩:=vm (m:=m) H enc w n [a0] y0 (by simpa [kK] using hg 0 _ rfl) (by omega)
   obtain ⟨v1,e1⟩:=cm (m:=m) H enc w n [a1] y1 (by simpa [co] using hg 1 _ rfl) (by omega)
   obtain ⟨v2,e2⟩:=cm (m:=m) H enc w n [a2] y2 (by simpa [co] using hg 2 _ rfl) (by omega)
   obtain ⟨v3,A3,c3,e3,h3⟩:=ou hm H enc w n [a3] y3 (by simpa [oo] using hg 3 _ rfl) (by omega)
   obtain ⟨v4,e4⟩:=cm (m:=m) H enc w n [a4] y4 (by simpa [co] using hg 4 _ rfl) (by omega)
   cases e0
   cases e1
   cases e2
   cases e3
   cases e4
   exact ⟨⟨v0,v1,v2,v3,v4⟩,A3,c3,rfl,h3⟩
theorem wI {m:Nat} (hm:m≤sm):iN m 63 mR:=fun H enc w fuel cs x h hb=>by
 obtain ⟨xs,n,_,rfl,hl,hlen,hg⟩:=DataW.trod_struct underlying63 h
 rw [rh] at hl
 match xs,hlen with
 | [y0,y1],_=>
  simp only [HL,List.map_nil,Rows.uptoBulk,Rows.uptoBulkAll] at hb
  have p0:=ap y0.1
  have p1:=ap y1.1
  match cs,hl with
  | [a0,a1,a2,a3],_=>
   obtain ⟨v0,e0,h0,k0⟩:=mg hm H enc w n [a0,a1] y0 (by simpa [jU] using hg 0 _ rfl) (by omega)
   obtain ⟨v1,e1,h1,k1⟩:=mg hm H enc w n [a2,a3] y1 (by simpa [jU] using hg 1 _ rfl) (by omega)
   cases e0
   cases e1
   exact ⟨⟨v0.1,v0.2,v1.1,v1.2⟩,rfl,h0,k0,h1,k1⟩
theorem vo {m:Nat} (hm:m≤sm):iN m 104 xm:=fun H enc w fuel cs x h hb=>by
 obtain ⟨xs,n,_,rfl,hl,hlen,hg⟩:=DataW.trod_struct underlying104 h
 rw [ot] at hl
 match xs,hlen with
 | [y0,y1],_=>
  simp only [HL,List.map_nil,Rows.uptoBulk,Rows.uptoBulkAll] at hb
  have p0:=ap y0.1
  have p1:=ap y1.1
  match cs,hl with
  | [a0,a1],_=>
   obtain ⟨v0,A0,c0,e0,h0⟩:=cF (m:=m) (t:=52) (e:=63) (k:=4) underlying52 rh (by decide) (wI hm) H enc w n [a0] y0 (by simpa [tQ] using hg 0 _ rfl) (by omega)
   obtain ⟨v1,e1⟩:=cm (m:=m) H enc w n [a1] y1 (by simpa [co] using hg 1 _ rfl) (by omega)
   cases e0
   cases e1
   exact ⟨⟨v0,v1⟩,A0,c0,rfl,h0⟩
theorem Cg {m:Nat} (hm:m≤sm):iN m 100 oL:=fun H enc w fuel cs x h hb=>by
 obtain ⟨xs,n,_,rfl,hl,hlen,hg⟩:=DataW.trod_struct underlying100 h
 rw [tP] at hl
 match xs,hlen with
 | [y0,y1,y2,y3],_=>
  simp only [HL,List.map_nil,Rows.uptoBulk,Rows.uptoBulkAll] at hb
  have p0:=ap y0.1
  have p1:=ap y1.1
  have p2:=ap y2.1
  have p3:=ap y3.1
  match cs,hl with
  | [a0,a1,a2,a3],_=>
   obtain ⟨v0,A0,c0,e0,h0⟩:=jV (m:=m) H enc w n [a0] y0 (by simpa [f8] using hg 0 _ rfl) (by omega)
   obtain ⟨v1,A1,c1,e1,h1,g1,k1⟩:=f7 (m:=m) (t:=97) (e:=102) (k:=1) underlying97 oo (by decide) (ou hm) H enc w n [a1] y1 (by simpa [qj] using hg 1 _ rfl) (by omega)
   obtain ⟨v2,A2,c2,e2,h2⟩:=cF (m:=m) (t:=98) (e:=104) (k:=2) underlying98 ot (by decide) (vo hm) H enc w n [a2] y2 (by simpa [tR] using hg 2 _ rfl) (by omega)
   obtain ⟨v3,e3⟩:=cm (m:=m) H enc w n [a3] y3 (by simpa [co] using hg 3 _ rfl) (by omega)
   cases e0
   cases e1
   cases e2
   cases e3
   exact ⟨⟨v0,v1,v2,v3⟩,A0,A1,A2,c0,c1,c2,rfl,h0,h1,h2,Hj k1 hm⟩
theorem DK {m:Nat} (hm:m≤sm):iN m 106 Ad:=fun H enc w fuel cs x h hb=>by
 obtain ⟨xs,n,_,rfl,hl,hlen,hg⟩:=DataW.trod_struct underlying106 h
 rw [wG] at hl
 match xs,hlen with
 | [y0,y1],_=>
  simp only [HL,List.map_nil,Rows.uptoBulk,Rows.uptoBulkAll] at hb
  have p0:=ap y0.1
  have p1:=ap y1.1
  match cs,hl with
  | [a0,a1],_=>
   obtain ⟨v0,A0,c0,e0,h0⟩:=jV (m:=m) H enc w n [a0] y0 (by simpa [f8] using hg 0 _ rfl) (by omega)
   obtain ⟨v1,A1,c1,e1,h1⟩:=cF (m:=m) (t:=27) (e:=147) (k:=5) underlying27 oq (by decide) (tS hm) H enc w n [a1] y1 (by simpa [qk] using hg 1 _ rfl) (by omega)
   cases e0
   cases e1
   exact ⟨⟨v0,v1⟩,A0,A1,c0,c1,rfl,h0,h1⟩
theorem wJ {m:Nat} (hm:m≤sm):iN m 55 GW:=fun H enc w fuel cs x h hb=>by
 obtain ⟨xs,n,_,rfl,hl,hlen,hg⟩:=DataW.trod_struct underlying55 h
 rw [ri] at hl
 match xs,hlen with
 | [y0,y1],_=>
  simp only [HL,List.map_nil,Rows.uptoBulk,Rows.uptoBulkAll] at hb
  have p0:=ap y0.1
  have p1:=ap y1.1
  match cs,hl with
  | [a0,a1],_=>
   obtain ⟨v0,e0⟩:=cm (m:=m) H enc w n [a0] y0 (by simpa [co] using hg 0 _ rfl) (by omega)
   obtain ⟨v1,A1,c1,e1,h1⟩:=cF (m:=m) (t:=53) (e:=61) (k:=2) underlying53 jU (by decide) (mg hm) H enc w n [a1] y1 (by simpa [Cc] using hg 1 _ rfl) (by omega)
   cases e0
   cases e1
   exact ⟨⟨v0,v1⟩,A1,c1,rfl,h1⟩
theorem DM {m:Nat} (hm:m≤sm):iN m 108 qz:=fun H enc w fuel cs x h hb=>by
 obtain ⟨xs,n,_,rfl,hl,hlen,hg⟩:=DataW.trod_struct underlying108 h
 rw [wH] at hl
 match xs,hlen with
 | [y0,y1,y2,y3],_=>
  simp only [HL,List.map_nil,Rows.uptoBulk,Rows.uptoBulkAll] at hb
  have p0:=ap y0.1
  have p1:=ap y1.1
  have p2:=ap y2.1
  have p3:=ap y3.1
  match cs,hl with
  | [a0,a1,a2,a3,a4],_=>
   obtain ⟨v0,A0,c0,e0,h0,g0,k0⟩:=f7 (m:=m) (t:=97) (e:=102) (k:=1) underlying97 oo (by decide) (ou hm) H enc w n [a0] y0 (by simpa [qj] using hg 0 _ rfl) (by omega)
   obtain ⟨v1,A1,c1,e1,h1⟩:=cF (m:=m) (t:=73) (e:=5) (k:=1) underlying73 kK (by decide) Fv H enc w n [a1] y1 (by simpa [vn] using hg 1 _ rfl) (by omega)
   obtain ⟨v2,A2,c2,e2,h2,g2,k2⟩:=f7 (m:=m) (t:=23) (e:=3) (k:=1) underlying23 co (by decide) cm H enc w n [a2] y2 (by simpa [f8] using hg 2 _ rfl) (by omega)
   obtain ⟨v3,A3,c3,e3,h3⟩:=wJ hm H enc w n [a3,a4] y3 (by simpa [ri] using hg 3 _ rfl) (by omega)
   cases e0
   cases e1
   cases e2
   cases e3
   exact ⟨⟨v0,v1,v2,v3⟩,A0,A1,A2,A3,c0,c1,c2,c3,rfl,h0,h1,h2,h3,Hj k0 hm,g2⟩
theorem Ch {w:World} {B:Nat} {A:Option Addr} {c:List Nd} (h:Sl 6 Ab w B A c):uq c:=fun n hn=>by
 obtain ⟨i,hi,rfl⟩:=Hw hn
 obtain ⟨_,_,_,_,_,_,_,_,h1,_⟩:=h.2 i _ (Hn hi)
 exact h1.1
theorem wK {w:World} {B:Nat} {A:Option Addr} {l:List (List Nd)} (h:Sl 1 ro w B A l):∀ c∈l,uq c:=fun c hc=>by
 obtain ⟨i,hi,rfl⟩:=Hw hc
 obtain ⟨_,_,_,_,_,_,_,A',cap,_,hs⟩:=h.2 i _ (Hn hi)
 exact Ch hs
theorem Ci {w:World} {B:Nat} {A:Option Addr} {l:List oF} (h:Sl 5 oK w B A l):∀ x∈l,uq x.e:=fun x hx=>by
 obtain ⟨i,hi,rfl⟩:=Hw hx
 obtain ⟨_,_,_,_,_,_,_,A',cap,_,hs⟩:=h.2 i _ (Hn hi)
 exact Ch hs
theorem EZ {w:World} {B:Nat} (A1 A2 A3 A4 A5 A6 A7 A8 A9 A10 A11 A12:Option Addr) (p:Lp) (c1 c2 c3 c4 c5 c6 c7 c8 c9 c10 c11 c12:Nat) (h:cJ w B A1 A2 A3 A4 A5 A6 A7 A8 A9 A10 A11 A12 p):DS p:=by
 refine ⟨Ci h.control,fun a ha=> ?_,fun s hs=> ?_,fun t ht=> ?_⟩
 ·obtain ⟨i,hi,rfl⟩:=Hw ha
  obtain ⟨_,_,_,_,_,_,_,_,_,_,_,_,_,h2⟩:=h.acts.2 i _ (Hn hi)
  exact Ci h2
 ·obtain ⟨i,hi,rfl⟩:=Hw hs
  obtain ⟨_,_,_,_,_,_,_,_,_,_,_,_,_,_,_,h2,_⟩:=h.steps.2 i _ (Hn hi)
  exact wK h2
 ·obtain ⟨i,hi,rfl⟩:=Hw ht
  obtain ⟨_,_,_,_,_,_,_,_,_,_,_,_,_,_,_,_,h1,_⟩:=h.tabs.2 i _ (Hn hi)
  exact wK h1
end
end Go.Proofs.YtiebolhmdhdagaaGreatDoor

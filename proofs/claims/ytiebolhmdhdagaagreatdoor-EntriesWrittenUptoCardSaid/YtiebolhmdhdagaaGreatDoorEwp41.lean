import Derived.Test.YtiebolhmdhdagaaGreatDoorEwp34
import Derived.Test.YtiebolhmdhdagaaGreatDoorEwp35
import Derived.Test.YtiebolhmdhdagaaGreatDoorEwp40
set_option linter.all false
set_option maxHeartbeats 8000000
set_option maxRecDepth 100000
open Go.Proofs.Tryz
namespace Go.Proofs.YtiebolhmdhdagaaGreatDoor
open _root_.Nat renaming lt_of_lt_of_le→He, le_refl→Hh, le_trans→Hj, zero_le→Hm, mul_le_mul_right→Ib
open _root_.Go.RowKit.Below renaming refl→Hf
open _root_.Go.Calls renaming regrown_of→Hi
open _root_.Bool renaming true_and→Hk, and_eq_true→Hl
open _root_.List renaming getElem_mem→Ho, length_append→Hu, getElem_of_mem→Hw, all_eq_true→Hx, append_assoc→HP, append_nil→H2, nil_append→H5, eq_nil_of_length_eq_zero→H8
open Go.RowKit
section
open Go.RowKit Go.Lib
theorem DD (A1 A2 A3 A4 A5 A6 A7 A8 A9 A10 A11 A12:Option Addr) (p:Lp) (c1 c2 c3 c4 c5 c6 c7 c8 c9 c10 c11 c12:Nat) (ASW:Option Addr) (cSW:Nat) (sw:List ByteArray) (AE:Option Addr) (cE:Nat) (l:List (List aR)) (w:World) (h:cJ w w.heap.size A1 A2 A3 A4 A5 A6 A7 A8 A9 A10 A11 A12 p) (hE:p.emit.length≤c7) (hok:DS p) (hsw:Sl 1 bZ w w.heap.size ASW sw) (hle:Sl 1 fh w w.heap.size AE l) (hns:∀ x∈sw,x.size≤1048576) (hnt:∀ x∈p.nt,x.size≤1048576) (hna:∀ x∈p.na,x.size≤1048576) (hq:sw.length≤1000):
  Calls prog 12 #[.agg #[.slice A1 p.heads.length c1,.slice A2 p.metas.length c2,.slice A3 p.steps.length c3,.slice A4 p.acts.length c4,.slice A5 p.tabs.length c5,.slice A6 p.control.length c6,.slice A7 p.emit.length c7,.slice A8 p.nh.length c8,.slice A9 p.nf.length c9,.slice A10 p.nm.length c10,.slice A11 p.na.length c11,.slice A12 p.nt.length c12],.slice ASW sw.length cSW,.slice AE l.length cE] w fun e w'=>e=.returned (.string ⟨(cR (aV p) p sw l).toArray⟩)∧Below w.heap.size w w':=by
 obtain ⟨wa,hwa,hsa,hba,hca,-⟩:=ak w #[.slice A1 p.heads.length c1,.slice A2 p.metas.length c2,.slice A3 p.steps.length c3,.slice A4 p.acts.length c4,.slice A5 p.tabs.length c5,.slice A6 p.control.length c6,.slice A7 p.emit.length c7,.slice A8 p.nh.length c8,.slice A9 p.nf.length c9,.slice A10 p.nm.length c10,.slice A11 p.na.length c11,.slice A12 p.nt.length c12] 33
 have ls:=hsw.len
 have le:=hle.len
 have hB0:=aa hba
 have hP:=aa (fun (W:World) (hW:Below wa.heap.size wa W)=>((h.below hba).below (hW.mono hba.size)).more (Hj hba.size hW.size))
 have hS:=aa (fun (W:World) (hW:Below wa.heap.size wa W)=>((hsw.below av hba).below av (hW.mono hba.size)).more av (Hj hba.size hW.size))
 have hL:=aa (fun (W:World) (hW:Below wa.heap.size wa W)=>((hle.below aQ hba).below aQ (hW.mono hba.size)).more aQ (Hj hba.size hW.size))
 have hY:=aa (fun (W:World) (hW:Below wa.heap.size wa W)=>fun i=>(bH hW w.heap.size i (by omega)).trans (hca i))
 have hfin:=aa (fun (W:World) (hW:Below wa.heap.size wa W)=>hba.trans (hW.mono hba.size))
 have lwa:w.heap.size<wa.heap.size:=by omega
 have hok':=aa hok
 have hEk:∀ x∈l,∀ e∈x,CQ e:=fun x hx e he=>by
  obtain ⟨i,hi,rfl⟩:=Hw hx
  obtain ⟨_,_,_,_,_,_,_,hEl⟩:=hle.ents hi
  obtain ⟨j,hj,rfl⟩:=Hw he
  obtain ⟨_,_,_,_,_,_,_,_,_,_,_,_,_,_,hs1,_⟩:=hEl.ent hj
  exact hs1.okPts
 have hEk':=aa hEk
 have hEu:∀ x∈l,∀ e∈x,∀ y∈e.run.args,aI y.1∧aI y.2:=fun x hx e he=>by
  obtain ⟨i,hi,rfl⟩:=Hw hx
  obtain ⟨_,_,_,_,_,_,_,hEl⟩:=hle.ents hi
  obtain ⟨j,hj,rfl⟩:=Hw he
  obtain ⟨_,_,_,_,_,_,_,_,_,_,_,_,_,_,_,hs2⟩:=hEl.ent hj
  exact hs2.okNus
 have hEu':=aa hEu
 by_cases hne:l.length=sw.length
 ·have dn:((l.length:Int) !=(sw.length:Int))=false:=by rw [hne];simp
  replace hne:=aa hne
  replace hsa:=aa hsa
  have hfull:=aa (show cI p sw l 0= []++cI p sw l 0 from rfl)
  clear h hsw hle hba hca hok hEk hEu
  go_enter func12,ntmps12
  go_wp2
  go_loopw [7,8,9,10] (fun v7 v8 _ _ wr=>∃ (i:Nat) (L:List UInt8),v7=.string ⟨L.toArray⟩∧v8=.int .i64 (i:Int)∧i≤sw.length∧Hid (Below wa.heap.size wa wr)∧Hid (cI p sw l 0=L++cI p sw l i)∧Hid (L.length≤i*256000000)∧Hid (∀ k,k<i→fe (aV p) sw l k=true)) (fun _ v8 _ _ _=>sw.length-(RowKit.intOf v8).toNat)
  case atStart=>exact ⟨0,[],rfl,rfl,Hm _,aa (Hf _ _),hfull,aa (by simp),aa (fun k hk=>absurd hk (Nat.not_lt_zero _))⟩
  case round=>
   clear hfull
   obtain ⟨i,L,rfl,rfl,hi,hT,hfull,hLn,hokk⟩:=hrel
   by_cases hil:i<sw.length
   ·have hiz:(i:Int)<(sw.length:Int):=by omega
    have hizl:(i:Int)<(l.length:Int):=by have:=hne.out;omega
    have dk:decide ((i:Int)<(l.length:Int))=true:=decide_eq_true hizl
    have hil':i<l.length:=by have:=hne.out;omega
    have hns1:=hns _ (Ho hil)
    have htno:=aa (tn (f:=aV p) (p:=p) (l:=l) hil)
    have hokE:=aa (show fe (aV p) sw l i=(bj sw[i]&&(!decide (sw[i]∈sw.take i)&&aV p l[i])) from by
     unfold fe
     rw [ag _ hil,ag _ hil,ag _ hil'])
    go_wp2
    obtain ⟨wo,rfl⟩:∃ wo:World,wo=wr:=⟨_,rfl⟩
    go_loopw [9] (fun v9 wx=>∃ (j:Nat),v9=.int .i64 (j:Int)∧j≤i∧Hid (Below wa.heap.size wa wx)∧Hid (∀ k (hk:k<sw.length),k<j→sw[k]≠sw[i])) (fun v9 _=>i-(RowKit.intOf v9).toNat)
    case atStart=>exact ⟨0,rfl,Hm _,hT,aa (fun k _ h=>absurd h (Nat.not_lt_zero _))⟩
    case round=>
     clear hT
     obtain ⟨j,rfl,hj,hT,hin⟩:=hrel
     have hTz:=hT.out.size
     by_cases hjl:j<i
     ·have hjz:(j:Int)<(i:Int):=by omega
      have dj:decide ((j:Int)<(i:Int))=true:=decide_eq_true hjz
      have hjl2:j<sw.length:=by omega
      have hjz2:(j:Int)<(sw.length:Int):=by omega
      obtain ⟨b1,o1,hA1,hbb1,hc1,-⟩:=(hS.out wr hT.out).str hil
      obtain ⟨b2,o2,hA2,hbb2,hc2,-⟩:=(hS.out wr hT.out).str hjl2
      subst hA1
      injection hA2 with hA2
      injection hA2 with e1 e2 e3
      subst e1 e2
      have hgw:=aE (show Below wr.heap.size wr wr from Hf _ _) (Hh _)
      by_cases he:sw[j]=sw[i]
      ·have heb:=j0 he
       have hres:=aa (htno.out (by
        rw [hokE.out,decide_eq_true (show sw[i]∈sw.take i from by rw [←he];exact List.mem_take_iff_getElem.2 ⟨j,by omega,rfl⟩)]
        simp))
       clear hfull hLn hokk hokE htno hin
       go_wp2_with fail
       refine bV ?_
       repeat (any_goals (first|go_big_quiet_step (fail)|quiet_step (fail)))
       refine wpQuiet_nil ?_
       intro w1 hw1
       replace hw1:=ac hw1
       go_wp2
       go_ret
       exact ⟨by rw [hres.out];rfl,hfin.out _ (hT.out.trans (hw1.mono hTz))⟩
      ·have heb:=mD he
       have hin2:=aa (show ∀ k (hk:k<sw.length),k<j+1→sw[k]≠sw[i] from fun k hk hkj=>by
        by_cases hk2:k=j
        ·subst hk2;exact he
        ·exact hin.out k hk (by omega))
       clear hfull hLn hokk hokE htno hin
       go_wp2_with fail
       refine bV ?_
       repeat (any_goals (first|go_big_quiet_step (fail)|quiet_step (fail)))
       refine wpQuiet_nil ?_
       intro w1 hw1
       replace hw1:=ac hw1
       go_wp2
       go_roundw
       ·exact ⟨j+1,by go_num,hjl,aa (hT.out.trans (hw1.mono hTz)),hin2⟩
       ·simp [RowKit.intOf];omega
     ·obtain rfl:j=i:=by omega
      have dj:decide ((j:Int)<(j:Int))=false:=decide_eq_false (by omega)
      have hnin:sw[j]∉sw.take j:=fun hm=>by
       obtain ⟨m,hm1,hm2⟩:=List.mem_take_iff_getElem.1 hm
       exact hin.out m (by omega) (by omega) hm2
      replace hokE:=aa (hokE.out.trans (by rw [decide_eq_false hnin,Bool.not_false,Hk]))
      obtain ⟨sb,so,hA1,hsb,hsc,-⟩:=(hS.out wr hT.out).str hil
      obtain ⟨eb,eo,EA,ec,hA2,heb,hec,hEl⟩:=(hL.out wr hT.out).ents hil'
      obtain ⟨y0,y1,y2,y3,y4,y5,y6,y7,y8,y9,y10,y11⟩:=aC (hY.out wr hT.out)
      have hgl:=He lwa hTz
      have hIs:=aa (fun (W:World)=>jl sw[j] W)
      have hMy:=aa (fun (W:World) (hW:Below wr.heap.size wr W)=>(od A1 A2 A3 A4 A5 A6 A7 A8 A9 A10 A11 A12 p c1 c2 c3 c4 c5 c6 c7 c8 c9 c10 c11 c12 EA ec l[j] W (hP.out W (hT.out.trans (hW.mono hTz))) hE hok'.out ((hEl.below bh hW).more bh hW.size)).mono fun e w' g=>(⟨by rw [vW hok'.out (hEk'.out _ (Ho hil'))];exact g.1,g.2⟩:e=.returned (.bool (aV p l[j]))∧Below W.heap.size W w'))
      subst hA1 hA2
      have hOne:=hEl
      clear hin hnin
      go_upto_region 12 with fail
      go_cut [50] (fun v wx=>v=.bool (!fe (aV p) sw l j)∧Hid (Below wr.heap.size wr wx))
      case first=>
       generalize hNB:bj sw[j]=NB at hIs hokE
       generalize aV p l[j]=EM at hMy hokE
       have hgw:=aE (show Below wr.heap.size wr wr from Hf _ _) (Hh _)
       clear hEl hokk hLn hfull hns1 htno hOne
       replace hNB:=aa hNB
       cases NB with
       |false=>
        clear hMy
        refine bV ?_
        repeat (any_goals (first|go_big_quiet_step ((go_at_call 34;with_reducible exact Hi (hIs.out _)))|quiet_step ((go_at_call 34;with_reducible exact Hi (hIs.out _)))))
        refine wpQuiet_nil ?_
        intro w7 hw7
        replace hw7:=ac hw7
        go_wp2
        go_meet
        exact ⟨by rw [hokE.out];rfl,aa hw7⟩
       |true=>
        refine bV ?_
        repeat (any_goals (first|go_big_quiet_step (first|(go_at_call 34;with_reducible exact Hi (hIs.out _))|(go_at_call 8;with_reducible exact Hi (hMy.out _ (below_regrown wr _ _))))|quiet_step (first|(go_at_call 34;with_reducible exact Hi (hIs.out _))|(go_at_call 8;with_reducible exact Hi (hMy.out _ (below_regrown wr _ _))))))
        refine wpQuiet_nil ?_
        intro w7 hw7
        replace hw7:=ac hw7
        go_wp2
        go_meet
        exact ⟨by rw [hokE.out];rfl,aa hw7⟩
      case rest=>
       clear hIs hMy y0 y1 y2 y3 y4 y5 y6 y7 y8 y9 y10 y11
       obtain ⟨rfl,hb7⟩:=hcut
       obtain ⟨w7,rfl⟩:∃ w7:World,w7=wc:=⟨_,rfl⟩
       have hT7:=aa (hT.out.trans (hb7.out.mono hTz))
       cases hOK:fe (aV p) sw l j with
       |false=>
        go_wp2
        go_ret
        exact ⟨by rw [htno.out hOK];rfl,hfin.out _ hT7.out⟩
       |true=>
        have hem:aV p l[j]=true:=by
         unfold fe at hOK
         rw [ag _ hil,ag _ hil,ag _ hil'] at hOK
         simp only [Hl] at hOK
         exact hOK.2.2
        unfold aV at hem
        simp only [Hl,decide_eq_true_eq,Hx] at hem
        obtain ⟨hlm,h64,hone⟩:=hem
        have hokk2:=aa (show ∀ k,k<j+1→fe (aV p) sw l k=true from fun k hk=>by
         by_cases hki:k=j
         ·subst hki;exact hOK
         ·exact hokk.out k (by omega))
        have hcut:=pY (p:=p) hil hil'
        have hf7:=aa (show cI p sw l 0=L++(hZ p sw[j] l[j] 0++cI p sw l (j+1)) from by rw [←hcut];exact hfull.out)
        have hecW:=aa (fun (W:World) (hW:Below wa.heap.size wa W)=>(hL.out W hW).ents hil')
        have hscW:=aa (fun (W:World) (hW:Below wa.heap.size wa W)=>(hS.out W hW).str hil)
        have hEkj:=aa (fun e he=>hEk'.out _ (Ho hil') e he)
        have hEuj:=aa (fun e he=>hEu'.out _ (Ho hil') e he)
        have hone':=aa hone
        have hlm':=aa hlm
        have hLn7:=hLn
        clear hokk hb7 hT hec hEl hOne hone hlm hcut hfull hLn hOK hsc heb hsb hgl htno hokE hS hL hTz
        simp only [Bool.not_true]
        generalize l[j]=es at*
        generalize sw[j]=nm at*
        go_wp2
        obtain ⟨w8,rfl⟩:∃ w8:World,w8=w7:=⟨_,rfl⟩
        go_loopw [7,10] (fun v7 v10 wx=>∃ (m:Nat) (L2:List UInt8),v7=.string ⟨L2.toArray⟩∧v10=.int .i64 (m:Int)∧m≤es.length∧Hid (Below wa.heap.size wa wx)∧Hid (cI p sw l 0=L2++(hZ p nm es m++cI p sw l (j+1)))∧Hid (L2.length≤j*256000000+m*4000000)) (fun _ v10 _=>es.length-(RowKit.intOf v10).toNat)
        case atStart=>exact ⟨0,L,rfl,rfl,Hm _,hT7,hf7,aa (Hj hLn7.out (Nat.le_add_right _ _))⟩
        case round=>
         clear hT7 hf7 hLn7
         obtain ⟨m,L2,rfl,rfl,hm,hT,hf,hLn⟩:=hrel
         have hTz:=hT.out.size
         obtain ⟨eb',eo',EA',ec',hA2,heb,hec,hEl⟩:=hecW.out wr hT.out
         injection hA2 with hA2
         injection hA2 with e1 e2 e3
         subst e1 e2
         by_cases hml:m<es.length
         ·have hmz:(m:Int)<(es.length:Int):=by omega
          have dm:decide ((m:Int)<(es.length:Int))=true:=decide_eq_true hmz
          obtain ⟨sb',so',hA1,hsb,hsc,-⟩:=hscW.out wr hT.out
          injection hA1 with hA1
          injection hA1 with e1 e2 e3
          subst e1 e2
          obtain ⟨xb,xo,P1,P2,d1,d2,hAE,hxb,x0,x1,x2,x3,x4,x5,hs1,hs2⟩:=hEl.ent hml
          obtain ⟨t,a,hEk⟩:=nn hlm'.out (hone'.out es[m] (Ho hml))
          have hp4:es[m].pats.length≤4:=by
           have h1:=hEk.pk
           obtain ⟨-,hk4,-⟩:=dr ((ck hlm'.out).2.2 t (gh hEk.ht))
           omega
          have ha8:es[m].run.args.length≤8:=by
           have h1:=hEk.al2
           have:=(gu hlm'.out hEk.ha).1
           omega
          have hll:=n6 hEk (hEkj.out _ (Ho hml)) (hEuj.out _ (Ho hml)) hns1 hnt hna hp4 ha8
          obtain ⟨y0,y1,y2,y3,y4,y5,y6,y7,y8,y9,y10,y11⟩:=aC (hY.out wr hT.out)
          have hgl:=He lwa hTz
          have hLi:=aa (fun (W:World) (hW:Below wr.heap.size wr W)=>show Calls prog 35 #[.agg #[.slice A1 p.heads.length c1,.slice A2 p.metas.length c2,.slice A3 p.steps.length c3,.slice A4 p.acts.length c4,.slice A5 p.tabs.length c5,.slice A6 p.control.length c6,.slice A7 p.emit.length c7,.slice A8 p.nh.length c8,.slice A9 p.nf.length c9,.slice A10 p.nm.length c10,.slice A11 p.na.length c11,.slice A12 p.nt.length c12],.string nm,.agg #[.int .i64 es[m].tab,.slice P1 es[m].pats.length d1,.int .i64 es[m].len,.int .i64 es[m].prio,.int .i64 es[m].run.act,.slice P2 es[m].run.args.length d2]] W fun r w'=>r=.returned (.string ⟨(bm p nm es[m]).toArray⟩)∧Below W.heap.size W w' from
           DB A1 A2 A3 A4 A5 A6 A7 A8 A9 A10 A11 A12 p c1 c2 c3 c4 c5 c6 c7 c8 c9 c10 c11 c12 nm es[m] t a P1 P2 d1 d2 W (hP.out W (hT.out.trans (hW.mono hTz))) hEk ((hs1.below aL hW).more aL hW.size) ((hs2.below aw hW).more aw hW.size) hns1 hnt hna hp4 ha8 hEk.len.1 (by have:=hEk.len.2;omega))
          have hcutE:=p8 (p:=p) (nm:=nm) hml
          rw [hcutE,HP] at hf
          have hL9:=hLn.out
          subst hAE
          have hgw:=aE (show Below wr.heap.size wr wr from Hf _ _) (Hh _)
          generalize bm p nm es[m]=LT at*
          have hbd:¬9223372036854775807<L2.length+LT.length:=by
           have h2:=Ib 4000000 (show m≤64 by omega)
           have h3:=Ib 256000000 (show j≤1000 by omega)
           omega
          clear hEk hs1 hs2 hp4 ha8
          generalize es[m].pats.length=PL at*
          generalize es[m].run.args.length=AL at*
          generalize es[m].tab=TA at*
          generalize es[m].len=LE at*
          generalize es[m].prio=PR at*
          generalize es[m].run.act=AC at*
          replace hcutE:=aa hcutE
          clear hcutE hone' hlm' hEl hEkj hEuj
          go_wp2_with fail
          refine bV ?_
          repeat (any_goals (first|go_big_quiet_step ((go_at_call 35;with_reducible exact Hi (hLi.out _ (below_regrown wr _ _))))|quiet_step ((go_at_call 35;with_reducible exact Hi (hLi.out _ (below_regrown wr _ _))))))
          refine wpQuiet_nil ?_
          intro w9 hw9
          replace hw9:=ac hw9
          go_wp2
          go_roundw
          ·refine ⟨m+1,L2++LT,by apply congrArg Value.string;apply ByteArray.ext;apply Array.toList_inj.1;simp [ByteArray.data_append],by go_num,hml,aa (hT.out.trans (hw9.mono hTz)),aa (by rw [HP];exact hf.out),aa ?_⟩
           have h9:=Nat.add_mul m 1 4000000
           rw [Hu]
           omega
          ·simp [RowKit.intOf];omega
         ·obtain rfl:m=es.length:=by omega
          have dm:decide ((es.length:Int)<(es.length:Int))=false:=decide_eq_false (by omega)
          rw [pZ (Hh _),H5] at hf
          go_wp2
          go_roundw
          ·refine ⟨j+1,L2,rfl,by go_num,hil,hT,hf,aa ?_,hokk2⟩
           have h1:=hLn.out
           have h2:es.length*4000000≤64*4000000:=Ib _ h64
           have h9:=Nat.add_mul j 1 256000000
           omega
          ·simp [RowKit.intOf];omega
   ·obtain rfl:i=sw.length:=by omega
    have dk:decide ((sw.length:Int)<(l.length:Int))=false:=decide_eq_false (by have:=hne.out;omega)
    have dk2:¬(sw.length<l.length):=by have:=hne.out;omega
    have dk3:decide (sw.length<l.length)=false:=decide_eq_false dk2
    have hres:=aa (kI (p:=p) hne.out hokk.out)
    rw [pX (Hh _),H2] at hfull
    go_wp2
    go_ret
    exact ⟨by rw [hres.out,hfull.out];rfl,hfin.out _ hT.out⟩
 ·have dn:((l.length:Int) !=(sw.length:Int))=true:=by rw [bne_iff_ne];omega
  have ht:cR (aV p) p sw l= []:=by unfold cR;rw [if_pos hne]
  rw [ht]
  clear h hsw hle hba
  go_enter func12,ntmps12
  go_wp2
  go_ret
  exact ⟨rfl,hB0.out⟩
end
section
open Go.RowKit Go.Lib
theorem BX {l:List ByteArray} (h:lS l=true):fg l:=fun i hi=>by
 have:=(aF _ _).1 h i hi
 rw [ag _ hi,ag _ hi,Hl,Bool.not_eq_true',decide_eq_false_iff_not] at this
 exact this
theorem BY (A1 A2 A3 A4 A5 A6 A7 A8 A9 A10 A11 A12:Option Addr) (p:Lp) (c1 c2 c3 c4 c5 c6 c7 c8 c9 c10 c11 c12:Nat) (w:World) (h:cJ w w.heap.size A1 A2 A3 A4 A5 A6 A7 A8 A9 A10 A11 A12 p):
  Calls prog 13 #[.agg #[.slice A1 p.heads.length c1,.slice A2 p.metas.length c2,.slice A3 p.steps.length c3,.slice A4 p.acts.length c4,.slice A5 p.tabs.length c5,.slice A6 p.control.length c6,.slice A7 p.emit.length c7,.slice A8 p.nh.length c8,.slice A9 p.nf.length c9,.slice A10 p.nm.length c10,.slice A11 p.na.length c11,.slice A12 p.nt.length c12]] w fun e w'=>e=.returned (.bool (lS p.nt&&lS p.na))∧Below w.heap.size w w':=by
 obtain ⟨wz,hwz,hsz,hbz,hcz,-⟩:=ak w #[.slice A1 p.heads.length c1,.slice A2 p.metas.length c2,.slice A3 p.steps.length c3,.slice A4 p.acts.length c4,.slice A5 p.tabs.length c5,.slice A6 p.control.length c6,.slice A7 p.emit.length c7,.slice A8 p.nh.length c8,.slice A9 p.nf.length c9,.slice A10 p.nm.length c10,.slice A11 p.na.length c11,.slice A12 p.nt.length c12] 33
 obtain ⟨y0,y1,y2,y3,y4,y5,y6,y7,y8,y9,y10,y11⟩:=aC hcz
 have lw:w.heap.size<wz.heap.size:=by omega
 have hT:=aa (wE A12 c12 p.nt wz ((h.nt.below av hbz).more av hbz.size))
 have hN:=aa (fun (W:World) (hW:Below wz.heap.size wz W)=>wE A11 c11 p.na W (((h.na.below av hbz).below av (hW.mono hbz.size)).more av (Hj hbz.size hW.size)))
 have hb0:=aa hbz
 replace hsz:=aa hsz
 clear hcz hbz h
 generalize lS p.nt=R1 at hT ⊢
 generalize lS p.na=R2 at hN ⊢
 go_enter func13,ntmps13
 cases R1 with
 |false=>
  go_wp2_with (go_at_call 36;refine hT.out.mono ?_;rintro e w5 ⟨rfl,hb5⟩)
  go_ret
  exact ⟨rfl,hb0.out.trans (hb5.mono hb0.out.size)⟩
 |true=>
  go_wp2_with (first|(go_at_call 36;(with_reducible refine hT.out.mono ?_);rintro e w5 ⟨rfl,hb5⟩;have kk:=ah hb5;replace y10:=(kk.1 _ 10 lw).trans y10;have lw5:=He lw hb5.size;clear kk)|(go_at_call 36;(with_reducible refine (hN.out _ hb5).mono ?_);rintro e w6 ⟨rfl,hb6⟩))
  go_ret
  exact ⟨ad (Hk _).symm,hb0.out.trans ((hb5.trans (hb6.mono hb5.size)).mono hb0.out.size)⟩
theorem oe {f:List aR→Bool} {p:Lp} {sw:List ByteArray} {l:List (List aR)} (h:cR f p sw l≠ []):l.length=sw.length∧am (fe f sw l) sw.length=true∧0<sw.length:=by
 by_cases hl:l.length=sw.length
 ·by_cases ha:am (fe f sw l) sw.length=true
  ·refine ⟨hl,ha,Nat.pos_of_ne_zero fun h0=>h ?_⟩
   have:sw= []:=H8 h0
   subst this
   unfold cR
   rw [if_neg (by omega),if_pos ha];rfl
  ·exact absurd (by unfold cR;rw [if_neg (by omega),if_neg ha]) h
 ·exact absurd (by unfold cR;rw [if_pos (by omega)]) h
theorem tL {p:Lp} {sw:List ByteArray} {l:List (List aR)} (h:cR (aV p) p sw l≠ []):bW p=true:=by
 obtain ⟨hl,ha,h0⟩:=oe h
 have:=(iU hl ha).2 _ (Ho (show 0<l.length by omega))
 unfold aV at this
 simp only [Hl] at this
 exact this.1
theorem vi {p:Lp} {sw:List ByteArray} {l:List (List aR)} (hE:∀ x∈l,xB x) (hns:∀ x∈sw,x.size≤1048576) (hnt:∀ x∈p.nt,x.size≤1048576) (hna:∀ x∈p.na,x.size≤1048576) (hq:sw.length≤12):(cR (aV p) p sw l).length≤12*(64*4000000):=by
 by_cases h:cR (aV p) p sw l= []
 ·rw [h];simp
 ·obtain ⟨hl,ha,h0⟩:=oe h
  have hm:=tL h
  obtain ⟨-,hmay⟩:=iU hl ha
  rw [kI hl fun i hi=>(aF _ _).1 ha i hi]
  refine yN (n:=4000000) (m:=64) (fun x hx e he=> ?_) (fun x hx=> ?_) hq
  ·obtain ⟨hx1,hx2⟩:=List.of_mem_zip hx
   have h1:=hmay _ hx2
   unfold aV at h1
   simp only [Hl,decide_eq_true_eq,Hx] at h1
   obtain ⟨t,a,hEk⟩:=nn hm (h1.2.2 e he)
   have hp4:e.pats.length≤4:=by
    have h1:=hEk.pk
    obtain ⟨-,hk4,-⟩:=dr ((ck hm).2.2 t (gh hEk.ht))
    omega
   have ha8:e.run.args.length≤8:=by
    have h1:=hEk.al2
    have:=(gu hm hEk.ha).1
    omega
   exact n6 hEk (hE _ hx2 e he).1 (hE _ hx2 e he).2 (hns _ hx1) hnt hna hp4 ha8
  ·have h1:=hmay _ hx
   unfold aV at h1
   simp only [Hl,decide_eq_true_eq] at h1
   exact h1.2.1
theorem BZ {l:List UInt8} (h:65536<l.length):eU l=.error (3,0):=by unfold eU;rw [if_pos h]
end
def gE (e:aR):Bool:=decide (10<e.pats.length) ||decide (10<e.run.args.length)
def DZ (es:List aR):Bool:=decide (80<es.length) ||es.any gE
def jd (l:List (List aR)):Bool:=l.any DZ ||decide (12<l.length)
theorem B0 {α:Type} {f:α→Bool} {l:List α} {i:Nat} (h:i<l.length) (hf:f l[i]=true):l.any f=true:=List.any_eq_true.2 ⟨_,Ho h,hf⟩
theorem B5 {α:Type} {f:α→Bool} {l:List α} (h:∀ i (hi:i<l.length),f l[i]=false):l.any f=false:=by
 rw [List.any_eq_false]
 intro x hx
 obtain ⟨i,hi,rfl⟩:=Hw hx
 rw [h i hi];simp
theorem DE (AE:Option Addr) (cE:Nat) (l:List (List aR)) (w:World) (hle:Sl 1 fh w w.heap.size AE l):
  Calls prog 5 #[.slice AE l.length cE] w fun e w'=>e=.returned (.bool (jd l))∧w=w':=by
 have le:=hle.len
 have hyes:=aa (fun i (hi:i<l.length) (hg:DZ l[i]=true)=>show jd l=true from by unfold jd;rw [B0 hi hg];rfl)
 have hno:=aa (fun (h:∀ i (hi:i<l.length),DZ l[i]=false)=>show jd l=decide (12<l.length) from by unfold jd;rw [B5 h];rfl)
 generalize jd l=R at hyes hno ⊢
 go_enter func5,ntmps5
 go_wp2
 go_loopw [3,4] (fun v3 _ wr=>∃ (i:Nat),v3=.int .i64 (i:Int)∧i≤l.length∧wr=w∧Hid (∀ k (hk:k<l.length),k<i→DZ l[k]=false)) (fun v3 _ _=>l.length-(RowKit.intOf v3).toNat)
 case atStart=>exact ⟨0,rfl,Hm _,rfl,aa (fun k _ h=>absurd h (Nat.not_lt_zero _))⟩
 case round=>
  obtain ⟨i,rfl,hi,rfl,hinv⟩:=hrel
  by_cases hil:i<l.length
  ·have hiz:(i:Int)<(l.length:Int):=by omega
   have dk:decide ((i:Int)<(l.length:Int))=true:=decide_eq_true hiz
   obtain ⟨eb,eo,EA,ec,hA2,heb,hec,hEl⟩:=hle.ents hil
   have hen:=hEl.len
   subst hA2
   by_cases h80:80<l[i].length
   ·have d8:decide ((80:Int)<(l[i].length:Int))=true:=decide_eq_true (by omega)
    have hR:=hyes.out i hil (by unfold DZ;rw [decide_eq_true h80];rfl)
    subst hR
    go_wp2
    go_ret
    exact ⟨rfl,rfl⟩
   ·have d8:decide ((80:Int)<(l[i].length:Int))=false:=decide_eq_false (by omega)
    have hy2:=aa (fun j (hj:j<l[i].length) (hg:gE l[i][j]=true)=>hyes.out i hil (by unfold DZ;rw [B0 hj hg,Bool.or_true]))
    have hn2:=aa (fun (h:∀ j (hj:j<l[i].length),gE l[i][j]=false)=>show ∀ k (hk:k<l.length),k<i+1→DZ l[k]=false from fun k hk hki=>by
     by_cases hk2:k=i
     ·subst hk2;unfold DZ;rw [decide_eq_false h80,B5 h];rfl
     ·exact hinv.out k hk (by omega))
    clear hyes
    generalize l[i]=es at*
    go_wp2
    obtain ⟨wo,rfl⟩:∃ wo:World,wo=wr:=⟨_,rfl⟩
    go_loopw [4] (fun v4 wx=>∃ (j:Nat),v4=.int .i64 (j:Int)∧j≤es.length∧wx=wo∧Hid (∀ k (hk:k<es.length),k<j→gE es[k]=false)) (fun v4 _=>es.length-(RowKit.intOf v4).toNat)
    case atStart=>exact ⟨0,rfl,Hm _,rfl,aa (fun k _ h=>absurd h (Nat.not_lt_zero _))⟩
    case round=>
     obtain ⟨j,rfl,hj,rfl,hin⟩:=hrel
     by_cases hjl:j<es.length
     ·have hjz:(j:Int)<(es.length:Int):=by omega
      have dj:decide ((j:Int)<(es.length:Int))=true:=decide_eq_true hjz
      obtain ⟨xb,xo,P1,P2,d1,d2,hAE,hxb,x0,x1,x2,x3,x4,x5,hs1,hs2⟩:=hEl.ent hjl
      subst hAE
      have hgj:gE es[j]=(decide (10<es[j].pats.length) ||decide (10<es[j].run.args.length)):=rfl
      by_cases hp:10<es[j].pats.length
      ·have d1':decide ((10:Int)<(es[j].pats.length:Int))=true:=decide_eq_true (by omega)
       have hR:=hy2.out j hjl (by rw [hgj,decide_eq_true hp];rfl)
       subst hR
       go_wp2
       go_ret
       exact ⟨rfl,rfl⟩
      ·have d1':decide ((10:Int)<(es[j].pats.length:Int))=false:=decide_eq_false (by omega)
       by_cases ha:10<es[j].run.args.length
       ·have d2':decide ((10:Int)<(es[j].run.args.length:Int))=true:=decide_eq_true (by omega)
        have hR:=hy2.out j hjl (by rw [hgj,decide_eq_true ha,Bool.or_true])
        subst hR
        go_wp2
        go_ret
        exact ⟨rfl,rfl⟩
       ·have d2':decide ((10:Int)<(es[j].run.args.length:Int))=false:=decide_eq_false (by omega)
        have hgf:gE es[j]=false:=by rw [hgj,decide_eq_false hp,decide_eq_false ha];rfl
        have hin2:=aa (show ∀ k (hk:k<es.length),k<j+1→gE es[k]=false from fun k hk hkj=>by
         by_cases hk2:k=j
         ·subst hk2;exact hgf
         ·exact hin.out k hk (by omega))
        go_wp2
        go_roundw
        ·exact ⟨j+1,by go_num,hjl,by trivial,hin2⟩
        ·simp [RowKit.intOf];omega
     ·obtain rfl:j=es.length:=by omega
      have dj:decide ((es.length:Int)<(es.length:Int))=false:=decide_eq_false (by omega)
      have hfin:=aa (hn2.out (fun k hk=>hin.out k hk hk))
      go_wp2
      go_roundw
      ·exact ⟨i+1,by go_num,hil,by trivial,hfin⟩
      ·simp [RowKit.intOf];omega
  ·obtain rfl:i=l.length:=by omega
   have dk:decide ((l.length:Int)<(l.length:Int))=false:=decide_eq_false (by omega)
   have hR:=hno.out (fun k hk=>hinv.out k hk hk)
   subst hR
   go_wp2
   go_ret
   exact ⟨by go_num,rfl⟩
theorem vj (A1 A2 A3 A4 A5 A6 A7 A8 A9 A10 A11 A12:Option Addr) (p:Lp) (c1 c2 c3 c4 c5 c6 c7 c8 c9 c10 c11 c12:Nat) (ASW:Option Addr) (cSW:Nat) (sw:List ByteArray) (tx:ByteArray) (w:World) (h:cJ w w.heap.size A1 A2 A3 A4 A5 A6 A7 A8 A9 A10 A11 A12 p) (hsw:Sl 1 bZ w w.heap.size ASW sw):
  Calls prog 4 #[.agg #[.slice A1 p.heads.length c1,.slice A2 p.metas.length c2,.slice A3 p.steps.length c3,.slice A4 p.acts.length c4,.slice A5 p.tabs.length c5,.slice A6 p.control.length c6,.slice A7 p.emit.length c7,.slice A8 p.nh.length c8,.slice A9 p.nf.length c9,.slice A10 p.nm.length c10,.slice A11 p.na.length c11,.slice A12 p.nt.length c12],.slice ASW sw.length cSW,.string tx] w fun e w'=>(∃ b,e=.returned (.bool b)∧(b=false→sw.length≤12∧∀ x∈sw,x.size≤40))∧Below w.heap.size w w':=by
 obtain ⟨wz,hwz,hsz,hbz,hcz,-⟩:=ak w #[.slice A1 p.heads.length c1,.slice A2 p.metas.length c2,.slice A3 p.steps.length c3,.slice A4 p.acts.length c4,.slice A5 p.tabs.length c5,.slice A6 p.control.length c6,.slice A7 p.emit.length c7,.slice A8 p.nh.length c8,.slice A9 p.nf.length c9,.slice A10 p.nm.length c10,.slice A11 p.na.length c11,.slice A12 p.nt.length c12] 33
 obtain ⟨y0,y1,y2,y3,y4,y5,y6,y7,y8,y9,y10,y11⟩:=aC hcz
 have ls:=hsw.len
 have lw:w.heap.size<wz.heap.size:=by omega
 have hS:=aa ((hsw.below av hbz).more av hbz.size)
 have hG:=aa (uU A1 A2 A3 A4 A5 A6 A7 A8 A9 A10 A11 A12 p c1 c2 c3 c4 c5 c6 c7 c8 c9 c10 c11 c12 wz ((h.below hbz).more hbz.size))
 have hb0:=aa hbz
 replace hsz:=aa hsz
 clear hcz hbz h hsw
 go_enter func4,ntmps4
 go_wp2
 go_loopw [8,11] (fun _ v11 wr=>∃ (i:Nat),v11=.int .i64 (i:Int)∧i≤sw.length∧wr=wz∧Hid (∀ k (hk:k<sw.length),k<i→sw[k].size≤40)) (fun _ v11 _=>sw.length-(RowKit.intOf v11).toNat)
 case atStart=>exact ⟨0,rfl,Hm _,rfl,aa (fun k _ h=>absurd h (Nat.not_lt_zero _))⟩
 case round=>
  obtain ⟨i,rfl,hi,rfl,hinv⟩:=hrel
  by_cases hil:i<sw.length
  ·have hiz:(i:Int)<(sw.length:Int):=by omega
   have dk:decide ((i:Int)<(sw.length:Int))=true:=decide_eq_true hiz
   obtain ⟨b,o,hA,hb,hc,-⟩:=hS.out.str hil
   subst hA
   by_cases h40:40<sw[i].size
   ·have d4:decide ((40:Int)<(sw[i].size:Int))=true:=decide_eq_true (by omega)
    go_wp2
    go_ret
    exact ⟨⟨true,rfl,by simp⟩,hb0.out⟩
   ·have d4:decide ((40:Int)<(sw[i].size:Int))=false:=decide_eq_false (by omega)
    have hi2:=aa (show ∀ k (hk:k<sw.length),k<i+1→sw[k].size≤40 from fun k hk hki=>by
     by_cases hk2:k=i
     ·subst hk2;omega
     ·exact hinv.out k hk (by omega))
    go_wp2
    go_roundw
    ·exact ⟨i+1,by go_num,hil,by trivial,hi2⟩
    ·simp [RowKit.intOf];omega
  ·obtain rfl:i=sw.length:=by omega
   have dk:decide ((sw.length:Int)<(sw.length:Int))=false:=decide_eq_false (by omega)
   have hsz:∀ x∈sw,x.size≤40:=fun x hx=>by
    obtain ⟨k,hk,rfl⟩:=Hw hx
    exact hinv.out k hk hk
   replace hsz:=aa hsz
   clear hinv
   by_cases ht:3000<tx.size
   ·have d4:decide ((3000:Int)<(tx.size:Int))=true:=decide_eq_true (by omega)
    go_upto_region 7 with fail
    go_wp2_with (go_at_call 16;refine hG.out.mono ?_;rintro e w5 ⟨⟨g,rfl⟩,hb5⟩;cases g)
    all_goals (
     go_ret
     exact ⟨⟨true,rfl,by simp⟩,hb0.out.trans (hb5.mono hb0.out.size)⟩)
   ·have d4:decide ((3000:Int)<(tx.size:Int))=false:=decide_eq_false (by omega)
    go_upto_region 7 with fail
    go_wp2_with (go_at_call 16;refine hG.out.mono ?_;rintro e w5 ⟨⟨g,rfl⟩,hb5⟩;cases g)
    ·go_ret
     exact ⟨⟨decide (12<sw.length),by go_num,fun h=>⟨by simpa using h,hsz.out⟩⟩,hb0.out.trans (hb5.mono hb0.out.size)⟩
    ·go_ret
     exact ⟨⟨true,rfl,by simp⟩,hb0.out.trans (hb5.mono hb0.out.size)⟩
end Go.Proofs.YtiebolhmdhdagaaGreatDoor

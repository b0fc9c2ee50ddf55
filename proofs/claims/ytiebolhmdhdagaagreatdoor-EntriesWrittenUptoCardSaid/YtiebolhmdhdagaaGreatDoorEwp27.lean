import Derived.Test.YtiebolhmdhdagaaGreatDoorEwp26
set_option linter.all false
set_option maxHeartbeats 8000000
set_option maxRecDepth 100000
open Go.Proofs.Tryz
namespace Go.Proofs.YtiebolhmdhdagaaGreatDoor
open _root_.Nat renaming lt_of_lt_of_le→He, le_refl→Hh, le_trans→Hj, zero_le→Hm, mul_le_mul_right→Ib
open _root_.Go.RowKit.Below renaming refl→Hf
open _root_.Go.Calls renaming regrown_of→Hi
open _root_.Bool renaming and_eq_true→Hl
open _root_.List renaming getElem?_eq_getElem→Hn, getElem_mem→Ho, length_cons→Hp, length_append→Hu, getElem_of_mem→Hw, all_eq_true→Hx, length_map→Hz, mem_map→HN, append_assoc→HP, getD_eq_getElem?_getD→HT, length_nil→HY, append_nil→H2, nil_append→H5
section
open Go.RowKit Go.Lib
theorem n6 {p:Lp} {nm:ByteArray} {e:aR} {t:eF} {a:qv} (hE:nk p e t a) (hok:CQ e) (hou:∀ x∈e.run.args,aI x.1∧aI x.2) (hnm:nm.size≤1048576) (hnt:∀ x∈p.nt,x.size≤1048576) (hna:∀ x∈p.na,x.size≤1048576) (hpn:e.pats.length≤4) (han:e.run.args.length≤8):(bm p nm e).length≤4000000:=by
 obtain ⟨hl0,hl1⟩:=hE.len
 have hJ1:(join (bY (gB p e) e) bR).length≤400:=by
  have:=eA (n:=90) (m:=4) (l:=bY (gB p e) e) (fun x hx=>by
   obtain ⟨i,hi,rfl⟩:=Hw hx
   rw [bo] at hi
   have:=eQ (t:=gB p e) hi
   rw [Hn (by rw [bo];exact hi)] at this
   injection this with this
   rw [this]
   exact jP (hok _ (Ho hi)) hl0 (by omega)) (by rw [bo];exact hpn)
  omega
 have hJ2:(join (e.run.args.map bK) bR).length≤400:=by
  have:=eA (n:=39) (m:=8) (l:=e.run.args.map bK) (fun x hx=>by
   obtain ⟨y,hy,rfl⟩:=HN.1 hx
   exact gX (hou y hy).1 (hou y hy).2) (by rw [Hz];exact han)
  omega
 have hI3:=iX hE.pr.1 (by have:=hE.pr.2;omega)
 have key:∀ (ns:List ByteArray) (i:Int),(∀ x∈ns,x.size≤1048576)→i.toNat<ns.length→(dG ns i).length≤1048576:=fun ns i h hi=>by
  unfold dG
  rw [HT,Hn hi]
  exact h _ (Ho hi)
 have k1:=key p.nt e.tab hnt hE.tl.1
 have k2:=key p.na e.run.act hna hE.al.1
 have k3:nm.data.toList.length=nm.size:=rfl
 unfold bm
 simp only [Hu,Hp,dT,km,jv,HY]
 omega
theorem Sl.ents {w:World} {B:Nat} {A:Option Addr} {xs:List (List aR)} (h:Sl 1 fh w B A xs) {i:Nat} (hi:i<xs.length):∃ b o A' c',A=some ⟨b,o,none⟩∧b<B∧w.cell? ⟨b,o+i,none⟩=some (.slice A' xs[i].length c')∧Sl 6 fT w B A' xs[i]:=by
 obtain ⟨b,o,u,hA,hb,hc,A',c',e,hS⟩:=h.at1 hi
 injection e with e
 subst e
 exact ⟨b,o,A',c',hA,hb,hc,hS⟩
theorem Do (A1 A2 A3 A4 A5 A6 A7 A8 A9 A10 A11 A12:Option Addr) (p:Lp) (c1 c2 c3 c4 c5 c6 c7 c8 c9 c10 c11 c12:Nat) (ASW:Option Addr) (cSW:Nat) (sw:List ByteArray) (AE:Option Addr) (cE:Nat) (l:List (List aR)) (mm:Int) (w:World) (h:cJ w w.heap.size A1 A2 A3 A4 A5 A6 A7 A8 A9 A10 A11 A12 p) (hsw:Sl 1 bZ w w.heap.size ASW sw) (hle:Sl 1 fh w w.heap.size AE l) (hns:∀ x∈sw,x.size≤1048576) (hnt:∀ x∈p.nt,x.size≤1048576) (hna:∀ x∈p.na,x.size≤1048576) (hq:sw.length≤1000)
  (hpw:jD w) (hpl:3<w.heap.size) (hml:2<w.heap.size) (hm:w.cell? ⟨2,0,none⟩=some (.int .i64 mm)):
  Calls prog 11 #[.agg #[.slice A1 p.heads.length c1,.slice A2 p.metas.length c2,.slice A3 p.steps.length c3,.slice A4 p.acts.length c4,.slice A5 p.tabs.length c5,.slice A6 p.control.length c6,.slice A7 p.emit.length c7,.slice A8 p.nh.length c8,.slice A9 p.nf.length c9,.slice A10 p.nm.length c10,.slice A11 p.na.length c11,.slice A12 p.nt.length c12],.slice ASW sw.length cSW,.slice AE l.length cE] w fun e w'=>e=.returned (.string ⟨(cR (aV p) p sw l).toArray⟩)∧Below w.heap.size w w':=by
 obtain ⟨wa,hwa,hsa,hba,hca,-⟩:=ak w #[.slice A1 p.heads.length c1,.slice A2 p.metas.length c2,.slice A3 p.steps.length c3,.slice A4 p.acts.length c4,.slice A5 p.tabs.length c5,.slice A6 p.control.length c6,.slice A7 p.emit.length c7,.slice A8 p.nh.length c8,.slice A9 p.nf.length c9,.slice A10 p.nm.length c10,.slice A11 p.na.length c11,.slice A12 p.nt.length c12] 33
 have ls:=hsw.len
 have le:=hle.len
 have hB0:=aa hba
 have hP:=aa (fun (W:World) (hW:Below w.heap.size w W)=>(h.below hW).more hW.size)
 have hS:=aa (fun (W:World) (hW:Below w.heap.size w W)=>(hsw.below av hW).more av hW.size)
 have hL:=aa (fun (W:World) (hW:Below w.heap.size w W)=>(hle.below aQ hW).more aQ hW.size)
 have hM:=aa (fun (W:World) (hW:Below w.heap.size w W)=>(hW.cell (p:=⟨2,0,none⟩) hml).trans hm)
 have hW0:=aa (fun (W:World) (hW:Below w.heap.size w W)=>(⟨hpw.below hW hpl,He hpl hW.size⟩:jD W∧3<W.heap.size))
 replace hca:=aa hca
 have hle0:=aa hle
 by_cases hne:l.length=sw.length
 ·have dn:((l.length:Int) !=(sw.length:Int))=false:=by rw [hne];simp
  obtain ⟨w2,hw2,hs2,hb2,hc2,-⟩:=ak wa #[.pointer none,.slice none 0 0] 75
  have hblk:w2.heap[wa.heap.size]? =some (.cells #[.pointer none,.slice none 0 0] 75 (0,0)):=by rw [←hw2];exact heap_alloc_new wa _
  have hT:=aa (show tp w w2 wa.heap.size #[.slice A1 p.heads.length c1,.slice A2 p.metas.length c2,.slice A3 p.steps.length c3,.slice A4 p.acts.length c4,.slice A5 p.tabs.length c5,.slice A6 p.control.length c6,.slice A7 p.emit.length c7,.slice A8 p.nh.length c8,.slice A9 p.nf.length c9,.slice A10 p.nm.length c10,.slice A11 p.na.length c11,.slice A12 p.nt.length c12] [] from ⟨hba.trans (hb2.mono hba.size),.inl ⟨Hh _,.slice none 0 0,hblk,World.ownsRow_nil _ _ _ _,by simp [Value.ownBlock]⟩,by omega,by omega,fun i=>(bH hb2 w.heap.size i (by omega)).trans (hca.out i)⟩)
  replace hne:=aa hne
  replace hs2:=aa hs2
  clear hb2 hc2 hblk h hsw hle hpw hm hba hca
  go_enter func11,ntmps11
  go_upto_region 4 with fail
  have hT2:=aa (show tp w w2 (w.heap.size+1) #[.slice A1 p.heads.length c1,.slice A2 p.metas.length c2,.slice A3 p.steps.length c3,.slice A4 p.acts.length c4,.slice A5 p.tabs.length c5,.slice A6 p.control.length c6,.slice A7 p.emit.length c7,.slice A8 p.nh.length c8,.slice A9 p.nf.length c9,.slice A10 p.nm.length c10,.slice A11 p.na.length c11,.slice A12 p.nt.length c12] [] from hsa ▸ hT.out)
  clear hT hsa hwa hw2 hs2 hB0
  generalize w.heap.size+1=b at hT2 ⊢
  have hfull:=aa (show cI p sw l 0= []++cI p sw l 0 from rfl)
  go_wp2
  go_loopw [8,9,11,19,48] (fun _ _ _ v19 _ wr=>∃ (i:Nat) (L:List UInt8),v19=.int .i64 (i:Int)∧i≤sw.length∧Hid (tp w wr b #[.slice A1 p.heads.length c1,.slice A2 p.metas.length c2,.slice A3 p.steps.length c3,.slice A4 p.acts.length c4,.slice A5 p.tabs.length c5,.slice A6 p.control.length c6,.slice A7 p.emit.length c7,.slice A8 p.nh.length c8,.slice A9 p.nf.length c9,.slice A10 p.nm.length c10,.slice A11 p.na.length c11,.slice A12 p.nt.length c12] L)∧Hid (cI p sw l 0=L++cI p sw l i)∧Hid (L.length≤i*256000000)∧Hid (∀ k,k<i→fe (aV p) sw l k=true)) (fun _ _ _ v19 _ _=>sw.length-(RowKit.intOf v19).toNat)
  case atStart=>exact ⟨0,[],rfl,Hm _,hT2,hfull,aa (by simp),aa (fun k hk=>absurd hk (Nat.not_lt_zero _))⟩
  case round=>
   clear hT2 hfull
   obtain ⟨i,L,rfl,hi,hT,hfull,hLn,hokk⟩:=hrel
   by_cases hil:i<sw.length
   ·have hiz:(i:Int)<(sw.length:Int):=by omega
    have hizl:(i:Int)<(l.length:Int):=by have:=hne.out;omega
    have dk:decide ((i:Int)<(sw.length:Int))=true:=decide_eq_true hiz
    have hil':i<l.length:=by have:=hne.out;omega
    obtain ⟨sb,so,hA1,hsb,hsc,-⟩:=(hS.out wr hT.out.bel).str hil
    obtain ⟨eb,eo,EA,ec,hA2,heb,hec0,hEl⟩:=hle0.out.ents hil'
    have hec:=(hT.out.bel.cell (p:=⟨eb,eo+i,none⟩) heb).trans hec0
    have hEs:=aa (fun (W:World) (hW:Below w.heap.size w W)=>(hEl.below bh hW).more bh hW.size)
    clear hec0
    obtain ⟨y0,y1,y2,y3,y4,y5,y6,y7,y8,y9,y10,y11⟩:=aC hT.out.pb
    have hgl:w.heap.size<wr.heap.size:=by have:=hT.out.gb;have:=hT.out.lt;omega
    have hns1:=hns _ (Ho hil)
    have hIs:=aa (fun (W:World) (hW:Below wr.heap.size wr W)=>(mJ sw[i] mm W (Hj hns1 (by decide)) (hM.out W (hT.out.bel.trans (hW.mono hT.out.bel.size)))).mono fun e w' h=>(⟨h.1,h.2 ▸ Hf _ _⟩:e=.returned (.bool (bj sw[i]))∧Below W.heap.size W w'))
    have hIx:=aa (fun (W:World) (hW:Below wr.heap.size wr W)=>(kY _ cSW sw sw[i] W (hS.out W (hT.out.bel.trans (hW.mono hT.out.bel.size)))).mono fun e w' h=>(⟨h.1,h.2 ▸ Hf _ _⟩:e=.returned (.int .i64 (aU sw sw[i]))∧Below W.heap.size W w'))
    have hMy:=aa (fun (W:World) (hW:Below wr.heap.size wr W)=>tm A1 A2 A3 A4 A5 A6 A7 A8 A9 A10 A11 A12 p c1 c2 c3 c4 c5 c6 c7 c8 c9 c10 c11 c12 EA ec l[i] W (hP.out W (hT.out.bel.trans (hW.mono hT.out.bel.size))) (hEs.out W (hT.out.bel.trans (hW.mono hT.out.bel.size))))
    have hixn:=aa (Dn hil)
    have hok:fe (aV p) sw l i=(bj sw[i]&&(!decide (sw[i]∈sw.take i)&&aV p l[i])):=by
     unfold fe
     rw [ag _ hil,ag _ hil,ag _ hil']
    have htno:=aa (tn (f:=aV p) (p:=p) (l:=l) hil)
    subst hA1 hA2
    have lsb:sb<wr.heap.size:=hsb
    have leb:eb<wr.heap.size:=He heb hT.out.bel.size
    go_upto_region 7 with fail
    go_cut [42] (fun v wx=>v=.bool (!fe (aV p) sw l i)∧Hid (Below wr.heap.size wr wx))
    case first=>
     generalize hNB:bj sw[i]=NB at hIs hok
     generalize aV p l[i]=EM at hMy hok
     have hgw:=aE (show Below wr.heap.size wr wr from Hf _ _) (Hh _)
     clear hEl hokk hLn hfull hns1 htno
     replace hok:=aa hok
     replace hNB:=aa hNB
     cases NB with
     |false=>
      refine bV ?_
      repeat (any_goals (first|go_big_quiet_step ((go_at_call 29;with_reducible exact Hi (hIs.out _ (below_regrown wr _ _))))|quiet_step ((go_at_call 29;with_reducible exact Hi (hIs.out _ (below_regrown wr _ _))))))
      refine wpQuiet_nil ?_
      intro w7 hw7
      replace hw7:=ac hw7
      go_wp2
      go_meet
      exact ⟨by rw [hok.out];rfl,aa hw7⟩
     |true=>
      by_cases hin:sw[i]∈sw.take i
      ·have hd:=decide_eq_true (hixn.out.2 hin)
       have hin':=aa (decide_eq_true hin)
       generalize aU sw sw[i]=FI at hIx hd
       clear hMy
       refine bV ?_
       repeat (any_goals (first|go_big_quiet_step (first|(go_at_call 29;with_reducible exact Hi (hIs.out _ (below_regrown wr _ _)))|(go_at_call 30;with_reducible exact Hi (hIx.out _ (below_regrown wr _ _))))|quiet_step (first|(go_at_call 29;with_reducible exact Hi (hIs.out _ (below_regrown wr _ _)))|(go_at_call 30;with_reducible exact Hi (hIx.out _ (below_regrown wr _ _))))))
       refine wpQuiet_nil ?_
       intro w7 hw7
       replace hw7:=ac hw7
       go_wp2
       go_meet
       exact ⟨by rw [hok.out,hin'.out];rfl,aa hw7⟩
      ·have hd:=decide_eq_false (fun hq=>hin (hixn.out.1 hq))
       have hin':=aa (decide_eq_false hin)
       generalize aU sw sw[i]=FI at hIx hd
       refine bV ?_
       repeat (any_goals (first|go_big_quiet_step (first|(go_at_call 29;with_reducible exact Hi (hIs.out _ (below_regrown wr _ _)))|(go_at_call 30;with_reducible exact Hi (hIx.out _ (below_regrown wr _ _)))|(go_at_call 7;with_reducible exact Hi (hMy.out _ (below_regrown wr _ _))))|quiet_step (first|(go_at_call 29;with_reducible exact Hi (hIs.out _ (below_regrown wr _ _)))|(go_at_call 30;with_reducible exact Hi (hIx.out _ (below_regrown wr _ _)))|(go_at_call 7;with_reducible exact Hi (hMy.out _ (below_regrown wr _ _))))))
       refine wpQuiet_nil ?_
       intro w7 hw7
       replace hw7:=ac hw7
       go_wp2
       go_meet
       exact ⟨by rw [hok.out,hin'.out];rfl,aa hw7⟩
    case rest=>
     clear hIs hIx hMy hixn y0 y1 y2 y3 y4 y5 y6 y7 y8 y9 y10 y11 hok
     obtain ⟨rfl,hb7⟩:=hcut
     obtain ⟨w7,rfl⟩:∃ w7:World,w7=wc:=⟨_,rfl⟩
     have hT7:=aa (hT.out.below hb7.out)
     cases hOK:fe (aV p) sw l i with
     |false=>
      go_wp2
      go_ret
      exact ⟨by rw [htno.out hOK];rfl,hT7.out.bel⟩
     |true=>
      have hem:aV p l[i]=true:=by
       unfold fe at hOK
       rw [ag _ hil,ag _ hil,ag _ hil'] at hOK
       simp only [Hl] at hOK
       exact hOK.2.2
      have hem':=hem
      unfold aV at hem'
      simp only [Hl,decide_eq_true_eq,Hx] at hem'
      obtain ⟨hlm,h64,hone⟩:=hem'
      have hokk2:=aa (show ∀ k,k<i+1→fe (aV p) sw l k=true from fun k hk=>by
       by_cases hki:k=i
       ·subst hki;exact hOK
       ·exact hokk.out k (by omega))
      have hcut:=pY (p:=p) hil hil'
      have hf7:=aa (show cI p sw l 0=L++(hZ p sw[i] l[i] 0++cI p sw l (i+1)) from by rw [←hcut];exact hfull.out)
      have hec7:=(hb7.out.cell (p:=⟨eb,eo+i,none⟩) leb).trans hec
      have leb7:=He leb hb7.out.size
      have hone':=aa hone
      have hlm':=aa hlm
      have hLn7:=hLn
      clear hokk hb7 hT hec hEl hem hone hlm hcut hfull hLn hOK hsc leb lsb hgl hsb heb htno
      simp only [Bool.not_true]
      generalize l[i]=es at*
      generalize sw[i]=nm at*
      go_wp2
      obtain ⟨wo,rfl⟩:∃ wo:World,wo=w7:=⟨_,rfl⟩
      go_loopw [11,48] (fun _ v48 wx=>∃ (j:Nat) (L2:List UInt8),v48=.int .i64 (j:Int)∧j≤es.length∧Hid (tp w wx b #[.slice A1 p.heads.length c1,.slice A2 p.metas.length c2,.slice A3 p.steps.length c3,.slice A4 p.acts.length c4,.slice A5 p.tabs.length c5,.slice A6 p.control.length c6,.slice A7 p.emit.length c7,.slice A8 p.nh.length c8,.slice A9 p.nf.length c9,.slice A10 p.nm.length c10,.slice A11 p.na.length c11,.slice A12 p.nt.length c12] L2)∧Hid (cI p sw l 0=L2++(hZ p nm es j++cI p sw l (i+1)))∧Hid (L2.length≤i*256000000+j*4000000)) (fun _ v48 _=>es.length-(RowKit.intOf v48).toNat)
      case atStart=>exact ⟨0,L,rfl,Hm _,hT7,hf7,aa (Hj hLn7.out (Nat.le_add_right _ _))⟩
      case round=>
       clear hT7 hf7 hLn7
       obtain ⟨j,L2,rfl,hj,hT,hf,hLn⟩:=hrel
       by_cases hjl:j<es.length
       ·have hjz:(j:Int)<(es.length:Int):=by omega
        have dj:decide ((j:Int)<(es.length:Int))=true:=decide_eq_true hjz
        obtain ⟨xb,xo,P1,P2,d1,d2,hAE,hxb,x0,x1,x2,x3,x4,x5,hs1,hs2⟩:=(hEs.out wr hT.out.bel).ent hjl
        obtain ⟨t,a,hEk⟩:=nn hlm'.out (hone'.out es[j] (Ho hjl))
        have hp4:es[j].pats.length≤4:=by
         have h1:=hEk.pk
         obtain ⟨-,hk4,-⟩:=dr ((ck hlm'.out).2.2 t (gh hEk.ht))
         omega
        have ha8:es[j].run.args.length≤8:=by
         have h1:=hEk.al2
         have:=(gu hlm'.out hEk.ha).1
         omega
        have hok:CQ es[j]:=fun x hx=>by
         obtain ⟨m,hm,rfl⟩:=Hw hx
         obtain ⟨_,_,-,-,-,-,-,-,hu⟩:=hs1.pat hm
         exact hu
        have hou:∀ x∈es[j].run.args,aI x.1∧aI x.2:=fun x hx=>by
         obtain ⟨m,hm,rfl⟩:=Hw hx
         obtain ⟨_,_,-,-,-,-,hu⟩:=hs2.num hm
         exact hu
        have hll:=n6 hEk hok hou hns1 hnt hna hp4 ha8
        obtain ⟨w4,hw4,hs4,hb4,hc4,-⟩:=ak wr #[.int .i64 es[j].tab,.slice P1 es[j].pats.length d1,.int .i64 es[j].len,.int .i64 es[j].prio,.int .i64 es[j].run.act,.slice P2 es[j].run.args.length d2] 57
        obtain ⟨z0,z1,z2,z3,z4,z5⟩:=iK hc4
        have hT4:=hT.out.below hb4
        have hLi:=aa (show Calls prog 32 #[.agg #[.slice A1 p.heads.length c1,.slice A2 p.metas.length c2,.slice A3 p.steps.length c3,.slice A4 p.acts.length c4,.slice A5 p.tabs.length c5,.slice A6 p.control.length c6,.slice A7 p.emit.length c7,.slice A8 p.nh.length c8,.slice A9 p.nf.length c9,.slice A10 p.nm.length c10,.slice A11 p.na.length c11,.slice A12 p.nt.length c12],.string nm,.agg #[.int .i64 es[j].tab,.slice P1 es[j].pats.length d1,.int .i64 es[j].len,.int .i64 es[j].prio,.int .i64 es[j].run.act,.slice P2 es[j].run.args.length d2]] w4 fun r w'=>r=.returned (.string ⟨(bm p nm es[j]).toArray⟩)∧Hid (tp w w' b #[.slice A1 p.heads.length c1,.slice A2 p.metas.length c2,.slice A3 p.steps.length c3,.slice A4 p.acts.length c4,.slice A5 p.tabs.length c5,.slice A6 p.control.length c6,.slice A7 p.emit.length c7,.slice A8 p.nh.length c8,.slice A9 p.nf.length c9,.slice A10 p.nm.length c10,.slice A11 p.na.length c11,.slice A12 p.nt.length c12] L2) from
         (EQ A1 A2 A3 A4 A5 A6 A7 A8 A9 A10 A11 A12 p c1 c2 c3 c4 c5 c6 c7 c8 c9 c10 c11 c12 nm es[j] t a P1 P2 d1 d2 w4 (hP.out w4 hT4.bel) hEk ((hs1.below aL hb4).more aL hb4.size) ((hs2.below aw hb4).more aw hb4.size) hns1 hnt hna hp4 ha8 hEk.len.1 (by have:=hEk.len.2;omega) (hW0.out w4 hT4.bel).1 (hW0.out w4 hT4.bel).2).mono fun r w' g=>⟨g.1,aa (hT4.below g.2)⟩)
        have hcutE:=p8 (p:=p) (nm:=nm) hjl
        rw [hcutE,HP] at hf
        have hrm:wr.heap.size<w4.heap.size:=by omega
        obtain ⟨y0,y1,y2,y3,y4,y5,y6,y7,y8,y9,y10,y11⟩:=aC hT4.pb
        have l4g:w.heap.size<w4.heap.size:=by have:=hT4.gb;have:=hT4.lt;omega
        have hL9:=hLn.out
        subst hAE
        generalize bm p nm es[j]=LT at*
        have hbd:L2.length+LT.length≤140737488355328:=by
         have h2:=Ib 4000000 (show j≤64 by omega)
         have h3:=Ib 256000000 (show i≤1000 by omega)
         omega
        have hWr:=aa (fun (W:World) (hW:tp w W b #[.slice A1 p.heads.length c1,.slice A2 p.metas.length c2,.slice A3 p.steps.length c3,.slice A4 p.acts.length c4,.slice A5 p.tabs.length c5,.slice A6 p.control.length c6,.slice A7 p.emit.length c7,.slice A8 p.nh.length c8,.slice A9 p.nf.length c9,.slice A10 p.nm.length c10,.slice A11 p.na.length c11,.slice A12 p.nt.length c12] L2)=>hW.write LT hbd)
        clear hEk hok hou hs1 hs2 hp4 ha8
        generalize es[j].pats.length=PL at*
        generalize es[j].run.args.length=AL at*
        generalize es[j].tab=TA at*
        generalize es[j].len=LE at*
        generalize es[j].prio=PR at*
        generalize es[j].run.act=AC at*
        replace hcutE:=aa hcutE
        replace hs4:=aa hs4
        clear hT4 hb4 hc4 hcutE hone' hlm'
        go_wp2_with (first|(go_at_call 32;refine hLi.out.mono ?_;rintro e0 w5 ⟨rfl,hT5⟩)|(go_at_call 31;refine (hWr.out _ hT5.out).mono ?_;rintro e0 w6 ⟨⟨v,rfl⟩,hT6⟩))
        go_roundw
        ·refine ⟨j+1,L2++LT,by go_num,hjl,aa hT6,aa (by rw [HP];exact hf.out),aa ?_⟩
         have h9:=Nat.add_mul j 1 4000000
         rw [Hu]
         omega
        ·simp [RowKit.intOf];omega
       ·obtain rfl:j=es.length:=by omega
        have dj:decide ((es.length:Int)<(es.length:Int))=false:=decide_eq_false (by omega)
        rw [pZ (Hh _),H5] at hf
        go_wp2
        go_roundw
        ·refine ⟨i+1,L2,by go_num,hil,hT,hf,aa ?_,hokk2⟩
         have h1:=hLn.out
         have h2:es.length*4000000≤64*4000000:=Ib _ h64
         have h9:=Nat.add_mul i 1 256000000
         omega
        ·simp [RowKit.intOf];omega
   ·obtain rfl:i=sw.length:=by omega
    have dk:decide ((sw.length:Int)<(sw.length:Int))=false:=decide_eq_false (by omega)
    have hres:=kI (p:=p) hne.out hokk.out
    rw [pX (Hh _),H2] at hfull
    have hstr:=aa hT.out.str
    go_wp2_with (go_at_call 33;refine hstr.out.mono ?_;rintro e w9 ⟨rfl,hb9⟩)
    go_ret
    exact ⟨by rw [hres,hfull.out];rfl,hb9⟩
 ·have dn:((l.length:Int) !=(sw.length:Int))=true:=by rw [bne_iff_ne];omega
  have ht:cR (aV p) p sw l= []:=by unfold cR;rw [if_pos hne]
  rw [ht]
  clear h hsw hle hpw hm hba
  go_enter func11,ntmps11
  go_wp2
  go_ret
  exact ⟨rfl,hB0.out⟩
end
end Go.Proofs.YtiebolhmdhdagaaGreatDoor

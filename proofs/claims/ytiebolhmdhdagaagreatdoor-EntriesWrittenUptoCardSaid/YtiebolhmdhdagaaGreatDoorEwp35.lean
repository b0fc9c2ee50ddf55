import Derived.Test.YtiebolhmdhdagaaGreatDoorEwp27
set_option linter.all false
set_option maxHeartbeats 8000000
set_option maxRecDepth 100000
open Go.Proofs.Tryz
namespace Go.Proofs.YtiebolhmdhdagaaGreatDoor
open _root_.Nat renaming lt_of_lt_of_le→He, le_refl→Hh, zero_le→Hm, le_of_lt→Hs
open _root_.Go.RowKit.Below renaming refl→Hf
open _root_.Go.Calls renaming regrown_of→Hi
open _root_.Bool renaming and_eq_true→Hl
open _root_.List renaming getElem?_eq_getElem→Hn, getElem_mem→Ho, length_cons→Hp, length_append→Hu, getElem_of_mem→Hw, length_map→Hz, length_take→HF, mem_map→HN, append_assoc→HP, getD_eq_getElem?_getD→HT, getElem?_eq_some_iff→HV, length_nil→HY, append_nil→H2, nil_append→H5, cons_append→H6, take_of_length_le→Ia
open _root_.Int renaming eq_ofNat_of_zero_le→Hv, toNat_natCast→HG
section
open Go.RowKit Go.Lib
theorem oS (s:List UInt8) (r:List (List UInt8)) (y:List UInt8):joinTail s (r++ [y])=joinTail s r++(s++y):=by simp [joinTail]
theorem yW (s:List UInt8) (l:List (List UInt8)) (y:List UInt8):join (l++ [y]) s=join l s++((if l.length=0 then [] else s)++y):=by
 cases l with
 |nil=>rw [H5,rP,join_nil];rfl
 |cons x r=>rw [H6,join_cons,join_cons,oS];simp
theorem qc {s:List UInt8} {l:List (List UInt8)} {i:Nat} {y:List UInt8} (h:l[i]? =some y):join (l.take (i+1)) s=join (l.take i) s++((if i=0 then [] else s)++y):=by
 have hi:=(HV.1 h).1
 rw [List.take_add_one,h]
 show join (l.take i++ [y]) s=_
 rw [yW,HF,Nat.min_eq_left (Hs hi)]
theorem DB (A1 A2 A3 A4 A5 A6 A7 A8 A9 A10 A11 A12:Option Addr) (p:Lp) (c1 c2 c3 c4 c5 c6 c7 c8 c9 c10 c11 c12:Nat) (nm:ByteArray) (e:aR) (t:eF) (a:qv) (P1 P2:Option Addr) (d1 d2:Nat) (w:World) (h:cJ w w.heap.size A1 A2 A3 A4 A5 A6 A7 A8 A9 A10 A11 A12 p) (hE:nk p e t a) (hp1:Sl 4 mR w w.heap.size P1 e.pats) (hp2:Sl 2 ke w w.heap.size P2 e.run.args) (hnm:nm.size≤1048576) (hnt:∀ x∈p.nt,x.size≤1048576) (hna:∀ x∈p.na,x.size≤1048576)
  (hpn:e.pats.length≤4) (han:e.run.args.length≤8) (hl0:0≤e.len) (hl1:e.len≤100000):
  Calls prog 35 #[.agg #[.slice A1 p.heads.length c1,.slice A2 p.metas.length c2,.slice A3 p.steps.length c3,.slice A4 p.acts.length c4,.slice A5 p.tabs.length c5,.slice A6 p.control.length c6,.slice A7 p.emit.length c7,.slice A8 p.nh.length c8,.slice A9 p.nf.length c9,.slice A10 p.nm.length c10,.slice A11 p.na.length c11,.slice A12 p.nt.length c12],.string nm,sf P1 d1 P2 d2 e] w fun r w'=>r=.returned (.string ⟨(bm p nm e).toArray⟩)∧Below w.heap.size w w':=by
 obtain ⟨ht,ha,⟨ht1,ht2⟩,⟨ha1,ha2⟩,⟨hr1,hr2⟩,hpk,-,hkk,hkB0,-,-,-,-,-⟩:=hE
 have hok:CQ e:=fun x hx=>by
  obtain ⟨i,hi,rfl⟩:=Hw hx
  obtain ⟨b,o,-,-,-,-,-,-,hu⟩:=hp1.pat hi
  exact hu
 have hou:∀ x∈e.run.args,aI x.1∧aI x.2:=fun x hx=>by
  obtain ⟨i,hi,rfl⟩:=Hw hx
  obtain ⟨b,o,-,-,-,-,hu⟩:=hp2.num hi
  exact hu
 have htab:gB p e=t:=by unfold gB;rw [ht];rfl
 have hPT90:∀ x∈bY t e,x.length≤90:=fun x hx=>by
   obtain ⟨i,hi,rfl⟩:=Hw hx
   rw [bo] at hi
   have:=eQ (t:=t) hi
   rw [Hn (by rw [bo];exact hi)] at this
   injection this with this
   rw [this]
   exact jP (hok _ (Ho hi)) hl0 (by omega)
 have hJ1:(join (bY t e) bR).length≤400:=by
  have:=eA (n:=90) (m:=4) (l:=bY t e) (fun x hx=>by
   obtain ⟨i,hi,rfl⟩:=Hw hx
   rw [bo] at hi
   have:=eQ (t:=t) hi
   rw [Hn (by rw [bo];exact hi)] at this
   injection this with this
   rw [this]
   exact jP (hok _ (Ho hi)) hl0 (by omega)) (by rw [bo];exact hpn)
  omega
 have hJ2:(join (e.run.args.map bK) bR).length≤400:=by
  have:=eA (n:=39) (m:=8) (l:=e.run.args.map bK) (fun x hx=>by
   obtain ⟨y,hy,rfl⟩:=HN.1 hx
   exact gX (hou y hy).1 (hou y hy).2) (by rw [Hz];exact han)
  omega
 have hI3:=iX hr1 (by omega:e.prio≤9223372036854775807)
 obtain ⟨tab,pats,len,prio,act,args⟩:=e
 simp only at*
 obtain ⟨k,rfl⟩:=Hv ht2
 obtain ⟨j,rfl⟩:=Hv ha2
 simp only [HG] at ht1 ha1
 obtain ⟨hk1,rfl⟩:=wy ht
 
 obtain ⟨nb,no,hA12,hnb,hnc,-⟩:=h.nt.str ht1
 obtain ⟨ab,ao,hA11,hab,hac,-⟩:=h.na.str ha1
 have hn1:=hnt _ (Ho ht1)
 have hn2:=hna _ (Ho ha1)
 have hN1:dG p.nt (k:Int)=p.nt[k].data.toList:=by unfold dG;rw [HG,HT,Hn ht1];rfl
 have hN2:dG p.na (j:Int)=p.na[j].data.toList:=by unfold dG;rw [HG,HT,Hn ha1];rfl
 obtain ⟨tb,to',Q1,Q2,Q3,Q4,q1,q2,q3,q4,hA5,htb,-,hkc,-,-,-,-,s2,-,-,-⟩:=h.tabs.ltb hk1
 have hkz:(k:Int)<(p.tabs.length:Int):=by omega
 have hkz2:(k:Int)<(p.nt.length:Int):=by omega
 have hjz:(j:Int)<(p.na.length:Int):=by omega
 have lt1:=h.tabs.len
 have lt2:=h.nt.len
 have lt3:=h.na.len
 obtain ⟨wz,hwz,hsz,hbz,hcz,-⟩:=ak w #[.slice A1 p.heads.length c1,.slice A2 p.metas.length c2,.slice A3 p.steps.length c3,.slice A4 p.acts.length c4,.slice A5 p.tabs.length c5,.slice A6 p.control.length c6,.slice A7 p.emit.length c7,.slice A8 p.nh.length c8,.slice A9 p.nf.length c9,.slice A10 p.nm.length c10,.slice A11 p.na.length c11,.slice A12 p.nt.length c12] 33
 obtain ⟨wa,hwa,hsa,hba,hca,-⟩:=ak wz #[.int .i64 (k:Int),.slice P1 pats.length d1,.int .i64 len,.int .i64 prio,.int .i64 (j:Int),.slice P2 args.length d2] 57
 obtain ⟨y0,y1,y2,y3,y4,y5,y6,y7,y8,y9,y10,y11⟩:=aC fun i=>(bH hba w.heap.size i (by omega)).trans (hcz i)
 rw [hsz] at hca
 obtain ⟨x0,x1,x2,x3,x4,x5⟩:=iK hca
 have hw:Below w.heap.size w wa:=hbz.trans (hba.mono (by omega))
 rw [hA5] at y4
 rw [hA11] at y10
 rw [hA12] at y11
 have hsw:=hw.size
 have hC:=aa (fun (W:World) (hW:Below wa.heap.size wa W)=>(⟨(bH hW w.heap.size 4 (by omega)).trans y4,(bH hW (w.heap.size+1) 0 (by omega)).trans x0,(bH hW (w.heap.size+1) 1 (by omega)).trans x1,(bH hW (w.heap.size+1) 2 (by omega)).trans x2,(bH hW tb (to'+k*5+1) (by omega)).trans ((hw.cell (p:=⟨tb,to'+k*5+1,none⟩) htb).trans hkc)⟩:W.cell? ⟨w.heap.size,4,none⟩=some (.slice (some ⟨tb,to',none⟩) p.tabs.length c5)∧W.cell? ⟨w.heap.size+1,0,none⟩=some (.int .i64 (k:Int))∧W.cell? ⟨w.heap.size+1,1,none⟩=some (.slice P1 pats.length d1)∧W.cell? ⟨w.heap.size+1,2,none⟩=some (.int .i64 len)∧W.cell? ⟨tb,to'+k*5+1,none⟩=some (.slice Q2 p.tabs[k].kinds.length q2)))
 have hD:=aa (fun (W:World) (hW:Below wa.heap.size wa W)=>(⟨(bH hW w.heap.size 10 (by omega)).trans y10,(bH hW w.heap.size 11 (by omega)).trans y11,(bH hW (w.heap.size+1) 0 (by omega)).trans x0,(bH hW (w.heap.size+1) 3 (by omega)).trans x3,(bH hW (w.heap.size+1) 4 (by omega)).trans x4,(bH hW (w.heap.size+1) 5 (by omega)).trans x5,(bH hW nb (no+k) (by omega)).trans ((hw.cell (p:=⟨nb,no+k,none⟩) hnb).trans hnc),(bH hW ab (ao+j) (by omega)).trans ((hw.cell (p:=⟨ab,ao+j,none⟩) hab).trans hac)⟩:W.cell? ⟨w.heap.size,10,none⟩=some (.slice (some ⟨ab,ao,none⟩) p.na.length c11)∧W.cell? ⟨w.heap.size,11,none⟩=some (.slice (some ⟨nb,no,none⟩) p.nt.length c12)∧W.cell? ⟨w.heap.size+1,0,none⟩=some (.int .i64 (k:Int))∧W.cell? ⟨w.heap.size+1,3,none⟩=some (.int .i64 prio)∧W.cell? ⟨w.heap.size+1,4,none⟩=some (.int .i64 (j:Int))∧W.cell? ⟨w.heap.size+1,5,none⟩=some (.slice P2 args.length d2)∧W.cell? ⟨nb,no+k,none⟩=some (.string p.nt[k])∧W.cell? ⟨ab,ao+j,none⟩=some (.string p.na[j])))
 have hPt:=aa (fun (W:World) (hW:Below wa.heap.size wa W)=>hp1.lowB aL hw hW)
 have hNu:=aa (fun (W:World) (hW:Below wa.heap.size wa W)=>hp2.lowB aw hw hW)
 have hKd:=aa (fun (W:World) (hW:Below wa.heap.size wa W)=>s2.lowB bX hw hW)
 have hB:=aa (fun (W:World) (hW:Below wa.heap.size wa W)=>hw.trans (hW.mono hsw))
 have lw1:w.heap.size<wa.heap.size:=by omega
 have lw2:w.heap.size+1<wa.heap.size:=by omega
 have ltb:tb<wa.heap.size:=by omega
 have lnb:nb<wa.heap.size:=by omega
 have lab:ab<wa.heap.size:=by omega
 have hptz:=hp1.len
 have haz:=hp2.len
 have hkdl:=s2.len
 have hres:bm p nm ⟨(k:Int),pats,len,prio,⟨(j:Int),args⟩⟩=nm.data.toList++46::(p.nt[k].data.toList++58::32::(join (bY p.tabs[k] ⟨(k:Int),pats,len,prio,⟨(j:Int),args⟩⟩) bR++(dT++(itoa prio++(km++(p.na[j].data.toList++40::(join (args.map bK) bR++jv))))))):=by
  unfold bm
  rw [htab]
  simp only
  rw [hN1,hN2]
 rw [hres]
 have hkb3:=aa (fun i (hi:i<pats.length)=>hkB0 i (by omega))
 have hPTle:=aa (show ∀ x∈bY p.tabs[k] ⟨(k:Int),pats,len,prio,⟨(j:Int),args⟩⟩,x.length≤90 from hPT90)
 have hpa:=aa (fun i (hi:i<pats.length)=>eQ (t:=p.tabs[k]) (e:=⟨(k:Int),pats,len,prio,⟨(j:Int),args⟩⟩) hi)
 have hpl2:=bo p.tabs[k] ⟨(k:Int),pats,len,prio,⟨(j:Int),args⟩⟩
 simp only at hpa hpl2
 generalize bY p.tabs[k] ⟨(k:Int),pats,len,prio,⟨(j:Int),args⟩⟩=PT at*
 generalize p.tabs[k]=t at*
 generalize p.nt[k]=NK at*
 generalize p.na[j]=NJ at*
 have hkn:pats.length≤t.kinds.length:=by omega
 replace hpl2:=aa hpl2
 replace hpk:=aa hpk
 replace hkk:=aa hkk
 replace hsa:=aa hsa
 clear hcz hca hba hbz h hp1 hp2 hw hres hN1 hN2 htab y0 y1 y2 y3 y4 y5 y6 y7 y8 y9 y10 y11 x0 x1 x2 x3 x4 x5 hnc hac hkc s2 ht ha hnt hna hsw hA5 hA11 hA12 ht2 ha2
 obtain ⟨ln,rfl⟩:=Hv hl0
 obtain ⟨pn,rfl⟩:=Hv hr1
 have hDc:=aa (fun W=>wh ln W (by omega))
 have hDp:=aa (fun W=>wh pn W (by omega))
 have hIl:=aa (itoa_nonneg ln)
 have hIp:=aa (itoa_nonneg pn)
 have hdl:(decDigits ln).length≤21:=by rw [←itoa_nonneg];exact iX hl0 (by omega)
 have hdp:(decDigits pn).length≤21:=by rw [←itoa_nonneg];exact iX hr1 (by omega)
 obtain ⟨z1,z2,z3,z4,z5⟩:=hC.out wa (Hf _ _)
 obtain ⟨g0,g1,g2,g3,g4,g5,g6,g7⟩:=hD.out wa (Hf _ _)
 have q0:¬9223372036854775807<nm.size+1:=by omega
 have q1:¬9223372036854775807<nm.size+1+NK.size:=by omega
 have q2:¬9223372036854775807<nm.size+1+NK.size+2:=by omega
 have hPz:(nm.data.toList++46::(NK.data.toList++ [58,32])).length≤2097155:=by
  have a1:nm.data.toList.length=nm.size:=rfl
  have a2:NK.data.toList.length=NK.size:=rfl
  simp only [Hu,Hp,HY]
  omega
 have hS0:=aa (show nm++(⟨#[46]⟩:ByteArray)++NK++(⟨#[58,32]⟩:ByteArray)=gF ((nm.data.toList++46::(NK.data.toList++ [58,32]))++join (PT.take 0) bR) from by
  apply ByteArray.ext
  apply Array.toList_inj.1
  simp [ByteArray.data_append,gF,join_nil])
 obtain ⟨PRE,hPRE⟩:∃ PRE,nm.data.toList++46::(NK.data.toList++ [58,32])=PRE:=⟨_,rfl⟩
 rw [hPRE] at hS0 hPz
 replace hPRE:=aa hPRE
 have hjt:=aa (fun i=>show (join (PT.take i) bR).length≤400 from by
  have hle:=hPTle.out
  have:=eA (n:=90) (m:=4) (l:=PT.take i) (fun x hx=>hle x (List.mem_of_mem_take hx)) (by rw [HF,hpl2.out];omega)
  omega)
 go_enter func35,ntmps35
 go_wp2
 go_loopw [7,8] (fun v7 v8 wr=>∃ (i:Nat) (S:ByteArray),v8=.int .i64 (i:Int)∧v7=.string S∧i≤pats.length∧Hid (S=gF (PRE++join (PT.take i) bR))∧Hid (Below wa.heap.size wa wr)) (fun _ v8 _=>pats.length-(RowKit.intOf v8).toNat)
 case atStart=>exact ⟨0,_,rfl,rfl,Hm _,hS0,aa (Hf _ _)⟩
 case round=>
  clear z1 z2 z3 z4 z5 g0 g1 g2 g3 g4 g5 g6 g7 hS0 q0 q1 q2
  obtain ⟨i,S,rfl,rfl,hi,hS,hb⟩:=hrel
  have hSz:S.size≤2097555:=by
   have h1:=hjt.out i
   rw [hS.out]
   show (PRE++join (PT.take i) bR).toArray.size≤_
   rw [List.size_toArray,Hu]
   omega
  obtain ⟨z1,z2,z3,z4,z5⟩:=hC.out wr hb.out
  have l1:=He lw1 hb.out.size
  have l2:=He lw2 hb.out.size
  have l3:=He ltb hb.out.size
  by_cases hil:i<pats.length
  focus
   have hiz:(i:Int)<(pats.length:Int):=by omega
   have dk:decide ((i:Int)<(pats.length:Int))=true:=decide_eq_true hiz
   have hikz:(i:Int)<(t.kinds.length:Int):=by omega
   have hik:i<t.kinds.length:=by omega
   obtain ⟨b,o,hP1,hbw,p0,p1,p2,p3,hu⟩:=(hPt.out wr hb.out).pat hil
   obtain ⟨kb,ko,hQ2,hkb,hkv⟩:=(hKd.out wr hb.out).byte hik
   have hpi:=hpa.out i hil
   have hkB:=hkb3.out i hil
   rw [nH hik] at hpi hkB
   have hjn:=qc (s:=bR) hpi
   have hT1:=aa (fun W=>kG pats[i].vh pats[i].vl W hu.1 hu.2.1)
   have hT2:=aa (fun W=>kG pats[i].mh pats[i].ml W hu.2.2.1 hu.2.2.2)
   have t1:=gX hu.1 hu.2.1
   have t2:=gX hu.2.2.1 hu.2.2.2
   subst hP1 hQ2
   have hb1:b<wr.heap.size:=He hbw hb.out.size
   have hkb1:kb<wr.heap.size:=He hkb hb.out.size
   have hpx:gT t.kinds[i] pats[i] (ln:Int)=if t.kinds[i]=1 then decDigits (nv pats[i].vh pats[i].vl) else if t.kinds[i]=2 then decDigits (nv pats[i].vh pats[i].vl)++47::itoa (ln:Int) else decDigits (nv pats[i].vh pats[i].vl)++(32::38::38::38::32::decDigits (nv pats[i].mh pats[i].ml)):=rfl
   rw [hIl.out] at hpx
   rw [hpx] at hjn
   have hk123:t.kinds[i]=1∨t.kinds[i]=2∨t.kinds[i]=3:=by
    unfold cZ at hkB
    simp only [Hl,decide_eq_true_eq] at hkB
    omega
   clear hpx hkB hpi hu
   generalize decDigits (nv pats[i].vh pats[i].vl)=T1 at*
   generalize decDigits (nv pats[i].mh pats[i].ml)=T2 at*
   generalize decDigits ln=DL at*
   generalize t.kinds[i]=kd at*
   generalize pats[i]=x at*
   generalize hJi:join (PT.take i) bR=JI at*
   replace hJi:=aa hJi
   replace hjn:=aa hjn
   by_cases hi0:i=0
   focus
    have d0:decide ((0:Int)<(i:Int))=false:=decide_eq_false (by omega)
    have d1':decide (0<i)=false:=decide_eq_false (by omega)
    have d2':¬0<i:=by omega
    have hS1:=aa (show S=gF (PRE++(JI++(if i=0 then [] else bR))) from by rw [hS.out,if_pos hi0,H2])
    replace hi0:=aa hi0
    go_upto_region 7 with fail
    have hz1:S.size≤2097557:=by omega
    obtain ⟨S1,rfl⟩:∃ S1,S1=S:=⟨_,rfl⟩
    clear hS hSz z1 z2 z3 z4 z5 l1 l2 l3
    have q3:¬9223372036854775807<S1.size+T1.length:=by omega
    have q4:¬9223372036854775807<S1.size+T1.length+1:=by omega
    have q5:¬9223372036854775807<S1.size+T1.length+1+DL.length:=by omega
    have q6:¬9223372036854775807<S1.size+T1.length+5:=by omega
    have q7:¬9223372036854775807<S1.size+T1.length+5+T2.length:=by omega
    obtain ⟨z1,z2,z3,z4,z5⟩:=hC.out wr hb.out
    have l1:=He lw1 hb.out.size
    have l2:=He lw2 hb.out.size
    go_upto_region 8 with (go_at_call 84;refine (hT1.out _).mono ?_;rintro e w5 ⟨rfl,hb5⟩)
    clear z1 z2 z3 z4 z5 l1 l2
    have hbw5:=hb.out.trans (hb5.mono hb.out.size)
    obtain ⟨z1,z2,z3,z4,z5⟩:=hC.out w5 hbw5
    have kc:=(hb5.cell (p:=⟨kb,ko+i,none⟩) hkb1).trans hkv
    have m2:=(hb5.cell (p:=⟨b,o+i*4+2,none⟩) hb1).trans p2
    have m3:=(hb5.cell (p:=⟨b,o+i*4+3,none⟩) hb1).trans p3
    have l1:=He lw1 hbw5.size
    have l2:=He lw2 hbw5.size
    have l3:=He ltb hbw5.size
    have l4:=He hb1 hb5.size
    have l5:=He hkb1 hb5.size
    clear hT1 hkv p0 p1 p2 p3
    rcases hk123 with rfl|rfl|rfl
    rotate_right
    focus
     go_wp2_with (go_at_call 84;refine (hT2.out _).mono ?_;rintro e w6 ⟨rfl,hb6⟩;have hbf:=hbw5.trans (hb6.mono hbw5.size))
     go_roundw
     rotate_right
     focus simp [RowKit.intOf];omega
    rotate_right
    focus
     go_wp2_with (go_at_call 85;refine (hDc.out _).mono ?_;rintro e w6 ⟨rfl,hb6⟩;have hbf:=hbw5.trans (hb6.mono hbw5.size))
     go_roundw
     rotate_right
     focus simp [RowKit.intOf];omega
    rotate_right
    focus
     have hbf:=hbw5
     go_wp2
     go_roundw
     rotate_right
     focus simp [RowKit.intOf];omega
   rotate_right
   focus
    have d0:decide ((0:Int)<(i:Int))=true:=decide_eq_true (by omega)
    have d1':decide (0<i)=true:=decide_eq_true (by omega)
    have d2':0<i:=by omega
    have qs:¬9223372036854775807<S.size+2:=by omega
    have hS1:=aa (show S++(⟨#[44,32]⟩:ByteArray)=gF (PRE++(JI++(if i=0 then [] else bR))) from by
     rw [hS.out,if_neg hi0,show (⟨#[44,32]⟩:ByteArray)=gF [44,32] from rfl]
     show (⟨_⟩:ByteArray)++⟨_⟩=_
     rw [gp,HP];rfl)
    have hz1:(S++(⟨#[44,32]⟩:ByteArray)).size≤2097557:=by rw [ByteArray.size_append];show S.size+2≤_;omega
    go_upto_region 7 with fail
    generalize S++(⟨#[44,32]⟩:ByteArray)=S1 at hS1 hz1 ⊢
    clear hS hSz z1 z2 z3 z4 z5 l1 l2 l3
    have q3:¬9223372036854775807<S1.size+T1.length:=by omega
    have q4:¬9223372036854775807<S1.size+T1.length+1:=by omega
    have q5:¬9223372036854775807<S1.size+T1.length+1+DL.length:=by omega
    have q6:¬9223372036854775807<S1.size+T1.length+5:=by omega
    have q7:¬9223372036854775807<S1.size+T1.length+5+T2.length:=by omega
    obtain ⟨z1,z2,z3,z4,z5⟩:=hC.out wr hb.out
    have l1:=He lw1 hb.out.size
    have l2:=He lw2 hb.out.size
    go_upto_region 8 with (go_at_call 84;refine (hT1.out _).mono ?_;rintro e w5 ⟨rfl,hb5⟩)
    clear z1 z2 z3 z4 z5 l1 l2
    have hbw5:=hb.out.trans (hb5.mono hb.out.size)
    obtain ⟨z1,z2,z3,z4,z5⟩:=hC.out w5 hbw5
    have kc:=(hb5.cell (p:=⟨kb,ko+i,none⟩) hkb1).trans hkv
    have m2:=(hb5.cell (p:=⟨b,o+i*4+2,none⟩) hb1).trans p2
    have m3:=(hb5.cell (p:=⟨b,o+i*4+3,none⟩) hb1).trans p3
    have l1:=He lw1 hbw5.size
    have l2:=He lw2 hbw5.size
    have l3:=He ltb hbw5.size
    have l4:=He hb1 hb5.size
    have l5:=He hkb1 hb5.size
    clear hT1 hkv p0 p1 p2 p3
    rcases hk123 with rfl|rfl|rfl
    rotate_right
    focus
     go_wp2_with (go_at_call 84;refine (hT2.out _).mono ?_;rintro e w6 ⟨rfl,hb6⟩;have hbf:=hbw5.trans (hb6.mono hbw5.size))
     go_roundw
     rotate_right
     focus simp [RowKit.intOf];omega
    rotate_right
    focus
     go_wp2_with (go_at_call 85;refine (hDc.out _).mono ?_;rintro e w6 ⟨rfl,hb6⟩;have hbf:=hbw5.trans (hb6.mono hbw5.size))
     go_roundw
     rotate_right
     focus simp [RowKit.intOf];omega
    rotate_right
    focus
     have hbf:=hbw5
     go_wp2
     go_roundw
     rotate_right
     focus simp [RowKit.intOf];omega
  rotate_right
  focus
   obtain rfl:i=pats.length:=by omega
   have dk:decide ((pats.length:Int)<(pats.length:Int))=false:=decide_eq_false (by omega)
   have hPTf:PT.take pats.length=PT:=Ia (by rw [hpl2.out];exact Hh _)
   rw [hPTf] at hS
   obtain ⟨g0,g1,g2,g3,g4,g5,g6,g7⟩:=hD.out wr hb.out
   have l4:=He lab hb.out.size
   have hfin:=aa (fun (W:World) (hW:Below wr.heap.size wr W)=>hb.out.trans (hW.mono hb.out.size))
   generalize hDPe:decDigits pn=DP at*
   replace hDPe:=aa hDPe
   have q0:¬9223372036854775807<S.size+6:=by omega
   have q1:¬9223372036854775807<S.size+6+DP.length:=by omega
   have q2:¬9223372036854775807<S.size+6+DP.length+4:=by omega
   have q3:¬9223372036854775807<S.size+6+DP.length+4+NJ.size:=by omega
   have q4:¬9223372036854775807<S.size+6+DP.length+4+NJ.size+1:=by omega
   have hS2:=aa (show S++(⟨#[32,112,114,105,111,32]⟩:ByteArray)++(⟨DP.toArray⟩:ByteArray)++(⟨#[32,45,62,32]⟩:ByteArray)++NJ++(⟨#[40]⟩:ByteArray)=gF ((PRE++(join PT bR++(dT++(DP++(km++(NJ.data.toList++ [40]))))))++join ((args.take 0).map bK) bR) from by
    rw [hS.out]
    apply ByteArray.ext
    apply Array.toList_inj.1
    simp [ByteArray.data_append,gF,join_nil,dT,km])
   have hP2z:(PRE++(join PT bR++(dT++(DP++(km++(NJ.data.toList++ [40])))))).length≤4000000:=by
    have a1:NJ.data.toList.length=NJ.size:=rfl
    have a2:=hjt.out pats.length
    rw [hPTf] at a2
    simp only [Hu,Hp,HY,dT,km]
    omega
   obtain ⟨PR2,hPR2⟩:∃ PR2,PRE++(join PT bR++(dT++(DP++(km++(NJ.data.toList++ [40])))))=PR2:=⟨_,rfl⟩
   rw [hPR2] at hS2 hP2z
   replace hPR2:=aa hPR2
   have hgw:=aE (show Below wr.heap.size wr wr from Hf _ _) (Hh _)
   clear hS hPTf hC hpa hjt hPt hKd
   go_wp2_with fail
   refine bV ?_
   repeat (any_goals (first|go_big_quiet_step ((go_at_call 85;with_reducible exact Hi (hDp.out _)))|quiet_step ((go_at_call 85;with_reducible exact Hi (hDp.out _)))))
   refine wpQuiet_nil ?_
   intro w5 hw5
   replace hw5:=ac hw5
   clear hgw g0 g1 g2 g3 g4 g5 g6 g7 z1 z2 z3 z4 z5 l1 l2 l3 l4 q0 q1 q2 q3 q4
   have hb5:=aa (hfin.out w5 hw5)
   obtain ⟨g0,g1,g2,g3,g4,g5,g6,g7⟩:=hD.out w5 hb5.out
   have l1:=He lw1 hb5.out.size
   have l2:=He lw2 hb5.out.size
   clear hfin hw5
   go_wp2
   obtain ⟨wo,rfl⟩:∃ wo:World,wo=w5:=⟨_,rfl⟩
   go_loopw [7,9] (fun v7 v9 wx=>∃ (m:Nat) (SS:ByteArray),v9=.int .i64 (m:Int)∧v7=.string SS∧m≤args.length∧Hid (SS=gF (PR2++join ((args.take m).map bK) bR))∧Hid (Below wa.heap.size wa wx)) (fun _ v9 _=>args.length-(RowKit.intOf v9).toNat)
   case atStart=>exact ⟨0,_,rfl,rfl,Hm _,hS2,hb5⟩
   case round=>
    clear g0 g1 g2 g3 g4 g5 g6 g7 l1 l2 hS2 hSz
    obtain ⟨m,SS,rfl,rfl,hm,hSS,hbx⟩:=hrel
    have hSz:SS.size≤4000400:=by
     have h1:=eA (n:=39) (m:=8) (l:=(args.take m).map bK) (fun x hx=>by
      obtain ⟨y,hy,rfl⟩:=HN.1 hx
      exact gX (hou y (List.mem_of_mem_take hy)).1 (hou y (List.mem_of_mem_take hy)).2) (by rw [Hz,HF];omega)
     rw [hSS.out]
     show (PR2++join ((args.take m).map bK) bR).toArray.size≤_
     rw [List.size_toArray,Hu]
     omega
    obtain ⟨g0,g1,g2,g3,g4,g5,g6,g7⟩:=hD.out wr hbx.out
    have l1:=He lw1 hbx.out.size
    have l2:=He lw2 hbx.out.size
    by_cases hml:m<args.length
    ·have hmz:(m:Int)<(args.length:Int):=by omega
     have dk2:decide ((m:Int)<(args.length:Int))=true:=decide_eq_true hmz
     obtain ⟨b,o,hP2,hb2,p0,p1,hu1,hu2⟩:=(hNu.out _ hbx.out).num hml
     have hb2':b<wr.heap.size:=He hb2 hbx.out.size
     have hargt:(args.map bK)[m]? =some (decDigits (nv args[m].1 args[m].2)):=by rw [List.getElem?_map,Hn hml];rfl
     have hT1:=aa (fun W=>kG args[m].1 args[m].2 W hu1 hu2)
     have t1:=gX hu1 hu2
     have hjn:=qc (s:=bR) hargt
     rw [←List.map_take,←List.map_take] at hjn
     subst hP2
     clear hargt hu1 hu2
     generalize decDigits (nv args[m].1 args[m].2)=T1 at*
     generalize args[m]=y at*
     obtain ⟨y1,y2⟩:=y
     simp only at p0 p1 hT1
     replace hjn:=aa hjn
     by_cases hi0:m=0
     ·have d1':decide (0<m)=false:=decide_eq_false (by omega)
      have d2':¬0<m:=by omega
      have hS1:=aa (show SS=gF (PR2++(join ((args.take m).map bK) bR++(if m=0 then [] else bR))) from by rw [hSS.out,if_pos hi0,H2])
      replace hi0:=aa hi0
      have hz1:SS.size≤4000405:=by omega
      obtain ⟨S1,rfl⟩:∃ S1,S1=SS:=⟨_,rfl⟩
      clear hSS hSz
      have q3:¬9223372036854775807<S1.size+T1.length:=by omega
      go_wp2_with (go_at_call 84;refine (hT1.out _).mono ?_;rintro e w7 ⟨rfl,hb7⟩;have hbf:=hbx.out.trans (hb7.mono hbx.out.size))
      go_roundw
      ·exact ⟨m+1,_,by go_num,rfl,hml,aa (by rw [hjn.out,hS1.out];apply ByteArray.ext;apply Array.toList_inj.1;simp [gF,ByteArray.data_append]),aa hbf⟩
      ·simp [RowKit.intOf];omega
     ·have d1':decide (0<m)=true:=decide_eq_true (by omega)
      have d2':0<m:=by omega
      have qs:¬9223372036854775807<SS.size+2:=by omega
      have hS1:=aa (show SS++(⟨#[44,32]⟩:ByteArray)=gF (PR2++(join ((args.take m).map bK) bR++(if m=0 then [] else bR))) from by
       rw [hSS.out,if_neg hi0,show (⟨#[44,32]⟩:ByteArray)=gF [44,32] from rfl]
       show (⟨_⟩:ByteArray)++⟨_⟩=_
       rw [gp,HP];rfl)
      have hz1:(SS++(⟨#[44,32]⟩:ByteArray)).size≤4000405:=by rw [ByteArray.size_append];show SS.size+2≤_;omega
      go_upto_region 19 with fail
      generalize SS++(⟨#[44,32]⟩:ByteArray)=S1 at hS1 hz1 ⊢
      clear hSS hSz
      have q3:¬9223372036854775807<S1.size+T1.length:=by omega
      go_wp2_with (go_at_call 84;refine (hT1.out _).mono ?_;rintro e w7 ⟨rfl,hb7⟩;have hbf:=hbx.out.trans (hb7.mono hbx.out.size))
      go_roundw
      ·exact ⟨m+1,_,by go_num,rfl,hml,aa (by rw [hjn.out,hS1.out];apply ByteArray.ext;apply Array.toList_inj.1;simp [gF,ByteArray.data_append]),aa hbf⟩
      ·simp [RowKit.intOf];omega
    ·obtain rfl:m=args.length:=by omega
     have dk2:decide ((args.length:Int)<(args.length:Int))=false:=decide_eq_false (by omega)
     rw [Ia (Hh _)] at hSS
     have qf:¬9223372036854775807<SS.size+3:=by omega
     have hw9:=aa (hB.out wr hbx.out)
     have hre:=aa (show SS++(⟨#[41,59,10]⟩:ByteArray)=⟨(nm.data.toList++46::(NK.data.toList++58::32::(join PT bR++(dT++(itoa (pn:Int)++(km++(NJ.data.toList++40::(join (args.map bK) bR++jv)))))))).toArray⟩ from by
      rw [hSS.out,hIp.out,←hPR2.out,←hPRE.out]
      apply ByteArray.ext
      apply Array.toList_inj.1
      simp [ByteArray.data_append,gF,jv])
     clear hD hNu hbx hb5 hSS
     go_wp2
     go_ret
     exact ⟨by rw [hre.out];rfl,hw9.out⟩
  all_goals
   exact ⟨i+1,_,by go_num,rfl,hil,aa (by rw [hjn.out,hS1.out];apply ByteArray.ext;apply Array.toList_inj.1;simp [gF,ByteArray.data_append]),aa hbf⟩
end
end Go.Proofs.YtiebolhmdhdagaaGreatDoor

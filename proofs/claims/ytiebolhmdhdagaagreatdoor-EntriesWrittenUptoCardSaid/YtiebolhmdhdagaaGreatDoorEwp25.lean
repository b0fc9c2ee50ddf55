import Derived.Test.YtiebolhmdhdagaaGreatDoorEwp24
set_option linter.all false
set_option maxHeartbeats 8000000
set_option maxRecDepth 100000
open Go.Proofs.Tryz
namespace Go.Proofs.YtiebolhmdhdagaaGreatDoor
open _root_.Nat renaming lt_of_lt_of_le→He, le_refl→Hh, le_trans→Hj, zero_le→Hm
open _root_.Go.RowKit.Below renaming refl→Hf
open _root_.Go.Calls renaming regrown_of→Hi
open _root_.List renaming getElem?_eq_getElem→Hn, getElem_mem→Ho, length_cons→Hp, length_append→Hu, getElem_of_mem→Hw, length_map→Hz, length_take→HF, mem_map→HN, take_succ_eq_append_getElem→HR, getD_eq_getElem?_getD→HT, take_of_length_le→Ia
open _root_.Int renaming eq_ofNat_of_zero_le→Hv, toNat_natCast→HG
section
open Go.RowKit Go.Lib
attribute [local go_sem ↓] cU
theorem Sl.lowB {α:Type} {k:Nat} {R:CR α} {w wa W:World} {A:Option Addr} {xs:List α} (hs:gH R) (h:Sl k R w w.heap.size A xs) (hb:Below w.heap.size w wa) (hW:Below wa.heap.size wa W):Sl k R W wa.heap.size A xs:=
 ((h.below hs hb).below hs (hW.mono hb.size)).more hs hb.size
def gF (l:List UInt8):ByteArray:=⟨l.toArray⟩
theorem jO (l:List (List UInt8)):(l.map gF).map (·.data.toList)=l:=by
 rw [List.map_map]
 exact (List.map_congr_left fun x _=>rfl).trans (List.map_id l)
theorem BH (nm NK NJ:ByteArray) (J1 I3 J2:List UInt8):nm++(⟨#[46]⟩:ByteArray)++NK++(⟨#[58,32]⟩:ByteArray)++(⟨J1.toArray⟩:ByteArray)++(⟨#[32,112,114,105,111,32]⟩:ByteArray)++(⟨I3.toArray⟩:ByteArray)++(⟨#[32,45,62,32]⟩:ByteArray)++NJ++(⟨#[40]⟩:ByteArray)++(⟨J2.toArray⟩:ByteArray)++(⟨#[41,59,10]⟩:ByteArray)=⟨(nm.data.toList++46::(NK.data.toList++58::32::(J1++(dT++(I3++(km++(NJ.data.toList++40::(J2++jv)))))))).toArray⟩:=by
 apply ByteArray.ext
 apply Array.toList_inj.1
 simp [ByteArray.data_append,dT,km,jv]
theorem wy {α:Type} {l:List α} {k:Nat} {t:α} (h:eG l (k:Int)=some t):∃ h:k<l.length,l[k]=t:=by
 obtain ⟨_,h1,h2⟩:=kv h
 exact ⟨by simpa using h1,by simpa using h2⟩
theorem bo (t:eF) (e:aR):(bY t e).length=e.pats.length:=by unfold bY;rw [List.length_mapIdx]
theorem eQ {t:eF} {e:aR} {i:Nat} (h:i<e.pats.length):(bY t e)[i]? =some (gT (cB t i) e.pats[i] e.len):=by
 unfold bY;rw [List.getElem?_mapIdx,Hn h];rfl
theorem jP {k:Int} {x:Pt} {len:Int} (hx:em x) (h0:0≤len) (h1:len≤9223372036854775807):(gT k x len).length≤90:=by
 have t1:=gX hx.1 hx.2.1
 have t2:=gX hx.2.2.1 hx.2.2.2
 have t3:=iX h0 h1
 unfold gT
 by_cases h1:k=1
 ·rw [if_pos h1];omega
 ·rw [if_neg h1]
  by_cases h2:k=2
  ·rw [if_pos h2,Hu,Hp];omega
  ·rw [if_neg h2,Hu,Hp,Hp,Hp,Hp,Hp];omega
theorem vb {W:World} {base:Nat} {v:Value} {l:List ByteArray} (x:ByteArray) (hd:wk W base v l) (hb:base≤W.heap.size) (hz:l.length<100000):
  ∃ v' w',(eO #[28,28] 28 #[v,.slice (some ⟨W.heap.size,0,none⟩) 1 1]).run prog (W.alloc (.cells #[.string x] 9))=.ok v' w'∧wk w' base v' (l++ [x])∧Below base W w'∧yL 9 W w':=by
 obtain ⟨v',w',h1,h2,h3,h4,-⟩:=eu (f:=uL) underlying28 pP rfl (by decide) (fun _=>rfl) (fun x u hu=>by simp [uL] at hu;rw [hu];rfl) x hd hb hz (by decide)
 exact ⟨v',w',h1,h2,h4,jc hd h3⟩
structure wC (wa:World) (r:Nat) (x:Pt) (W:World):Prop where
 bel:Below wa.heap.size wa W
 bx:fl W r x.vh x.vl x.mh x.ml
theorem wC.held {wa W:World} {r:Nat} {x:Pt} (h:wC wa r x W):wC wa r x W∧W.cell? ⟨r,0,none⟩=some (.int .u64 x.vh)∧W.cell? ⟨r,1,none⟩=some (.int .u64 x.vl)∧W.cell? ⟨r,2,none⟩=some (.int .u64 x.mh)∧W.cell? ⟨r,3,none⟩=some (.int .u64 x.ml)∧∀ b o,b<wa.heap.size→W.cell? ⟨b,o,none⟩=wa.cell? ⟨b,o,none⟩:=by
 obtain ⟨s0,s1,s2,s3,-⟩:=h.bx.cells
 exact ⟨h,s0,s1,s2,s3,fun b o hb=>h.bel.cell (p:=⟨b,o,none⟩) hb⟩
theorem wC.step {wa W W':World} {r:Nat} {x:Pt} (h:wC wa r x W) (hb:Below W.heap.size W W'):wC wa r x W':=
 ⟨h.bel.trans (hb.mono h.bel.size),(hb.block r (bL h.bx)).trans h.bx⟩
theorem wC.app {wa W W':World} {r:Nat} {x:Pt} (h:wC wa r x W) (hb:Below wa.heap.size W W') (hK:yL 9 W W'):wC wa r x W':=
 ⟨h.bel.trans hb,hK _ _ _ _ h.bx (by decide)⟩
theorem EQ (A1 A2 A3 A4 A5 A6 A7 A8 A9 A10 A11 A12:Option Addr) (p:Lp) (c1 c2 c3 c4 c5 c6 c7 c8 c9 c10 c11 c12:Nat) (nm:ByteArray) (e:aR) (t:eF) (a:qv) (P1 P2:Option Addr) (d1 d2:Nat) (w:World) (h:cJ w w.heap.size A1 A2 A3 A4 A5 A6 A7 A8 A9 A10 A11 A12 p) (hE:nk p e t a) (hp1:Sl 4 mR w w.heap.size P1 e.pats) (hp2:Sl 2 ke w w.heap.size P2 e.run.args) (hnm:nm.size≤1048576) (hnt:∀ x∈p.nt,x.size≤1048576) (hna:∀ x∈p.na,x.size≤1048576)
  (hpn:e.pats.length≤4) (han:e.run.args.length≤8) (hl0:0≤e.len) (hl1:e.len≤100000) (hpw:jD w) (hpl:3<w.heap.size):
  Calls prog 32 #[.agg #[.slice A1 p.heads.length c1,.slice A2 p.metas.length c2,.slice A3 p.steps.length c3,.slice A4 p.acts.length c4,.slice A5 p.tabs.length c5,.slice A6 p.control.length c6,.slice A7 p.emit.length c7,.slice A8 p.nh.length c8,.slice A9 p.nf.length c9,.slice A10 p.nm.length c10,.slice A11 p.na.length c11,.slice A12 p.nt.length c12],.string nm,sf P1 d1 P2 d2 e] w fun r w'=>r=.returned (.string ⟨(bm p nm e).toArray⟩)∧Below w.heap.size w w':=by
 obtain ⟨ht,ha,⟨ht1,ht2⟩,⟨ha1,ha2⟩,⟨hr1,hr2⟩,hpk,-,hkk,-,-,-,-,-,-⟩:=hE
 have hok:CQ e:=fun x hx=>by
  obtain ⟨i,hi,rfl⟩:=Hw hx
  obtain ⟨b,o,-,-,-,-,-,-,hu⟩:=hp1.pat hi
  exact hu
 have hou:∀ x∈e.run.args,aI x.1∧aI x.2:=fun x hx=>by
  obtain ⟨i,hi,rfl⟩:=Hw hx
  obtain ⟨b,o,-,-,-,-,hu⟩:=hp2.num hi
  exact hu
 have htab:gB p e=t:=by unfold gB;rw [ht];rfl
 have hJ1:(join (bY t e) bR).length≤400:=by
  have:=eA (n:=90) (m:=4) (l:=bY t e) (fun x hx=>by
   obtain ⟨i,hi,rfl⟩:=Hw hx
   rw [bo] at hi
   have:=eQ (t:=t) hi
   rw [Hn (by rw [bo];exact hi)] at this
   injection this with this
   rw [this]
   exact jP (hok _ (Ho hi)) hl0 (by omega)) (by rw [bo];exact hpn)
  omega
 have hJ2:(join (e.run.args.map bK) bR).length≤400:=by
  have:=eA (n:=39) (m:=8) (l:=e.run.args.map bK) (fun x hx=>by
   obtain ⟨y,hy,rfl⟩:=HN.1 hx
   exact gX (hou y hy).1 (hou y hy).2) (by rw [Hz];exact han)
  omega
 have hI3:=iX hr1 (by omega:e.prio≤9223372036854775807)
 obtain ⟨tab,pats,len,prio,act,args⟩:=e
 simp only at*
 obtain ⟨k,rfl⟩:=Hv ht2
 obtain ⟨j,rfl⟩:=Hv ha2
 simp only [HG] at ht1 ha1
 obtain ⟨hk1,rfl⟩:=wy ht
 
 obtain ⟨nb,no,hA12,hnb,hnc,-⟩:=h.nt.str ht1
 obtain ⟨ab,ao,hA11,hab,hac,-⟩:=h.na.str ha1
 have hn1:=hnt _ (Ho ht1)
 have hn2:=hna _ (Ho ha1)
 have hN1:dG p.nt (k:Int)=p.nt[k].data.toList:=by unfold dG;rw [HG,HT,Hn ht1];rfl
 have hN2:dG p.na (j:Int)=p.na[j].data.toList:=by unfold dG;rw [HG,HT,Hn ha1];rfl
 obtain ⟨tb,to',Q1,Q2,Q3,Q4,q1,q2,q3,q4,hA5,htb,-,hkc,-,-,-,-,s2,-,-,-⟩:=h.tabs.ltb hk1
 have hkz:(k:Int)<(p.tabs.length:Int):=by omega
 have hkz2:(k:Int)<(p.nt.length:Int):=by omega
 have hjz:(j:Int)<(p.na.length:Int):=by omega
 have lt1:=h.tabs.len
 have lt2:=h.nt.len
 have lt3:=h.na.len
 obtain ⟨wz,hwz,hsz,hbz,hcz,-⟩:=ak w #[.slice A1 p.heads.length c1,.slice A2 p.metas.length c2,.slice A3 p.steps.length c3,.slice A4 p.acts.length c4,.slice A5 p.tabs.length c5,.slice A6 p.control.length c6,.slice A7 p.emit.length c7,.slice A8 p.nh.length c8,.slice A9 p.nf.length c9,.slice A10 p.nm.length c10,.slice A11 p.na.length c11,.slice A12 p.nt.length c12] 33
 obtain ⟨wa,hwa,hsa,hba,hca,-⟩:=ak wz #[.int .i64 (k:Int),.slice P1 pats.length d1,.int .i64 len,.int .i64 prio,.int .i64 (j:Int),.slice P2 args.length d2] 57
 obtain ⟨y0,y1,y2,y3,y4,y5,y6,y7,y8,y9,y10,y11⟩:=aC fun i=>(bH hba w.heap.size i (by omega)).trans (hcz i)
 rw [hsz] at hca
 obtain ⟨x0,x1,x2,x3,x4,x5⟩:=iK hca
 have hw:Below w.heap.size w wa:=hbz.trans (hba.mono (by omega))
 rw [hA5] at y4
 rw [hA11] at y10
 rw [hA12] at y11
 have hsw:=hw.size
 have hC:=aa (fun (W:World) (hW:Below wa.heap.size wa W)=>(⟨(bH hW w.heap.size 4 (by omega)).trans y4,(bH hW (w.heap.size+1) 0 (by omega)).trans x0,(bH hW (w.heap.size+1) 1 (by omega)).trans x1,(bH hW (w.heap.size+1) 2 (by omega)).trans x2,(bH hW tb (to'+k*5+1) (by omega)).trans ((hw.cell (p:=⟨tb,to'+k*5+1,none⟩) htb).trans hkc)⟩:W.cell? ⟨w.heap.size,4,none⟩=some (.slice (some ⟨tb,to',none⟩) p.tabs.length c5)∧W.cell? ⟨w.heap.size+1,0,none⟩=some (.int .i64 (k:Int))∧W.cell? ⟨w.heap.size+1,1,none⟩=some (.slice P1 pats.length d1)∧W.cell? ⟨w.heap.size+1,2,none⟩=some (.int .i64 len)∧W.cell? ⟨tb,to'+k*5+1,none⟩=some (.slice Q2 p.tabs[k].kinds.length q2)))
 have hD:=aa (fun (W:World) (hW:Below wa.heap.size wa W)=>(⟨(bH hW w.heap.size 10 (by omega)).trans y10,(bH hW w.heap.size 11 (by omega)).trans y11,(bH hW (w.heap.size+1) 0 (by omega)).trans x0,(bH hW (w.heap.size+1) 3 (by omega)).trans x3,(bH hW (w.heap.size+1) 4 (by omega)).trans x4,(bH hW (w.heap.size+1) 5 (by omega)).trans x5,(bH hW nb (no+k) (by omega)).trans ((hw.cell (p:=⟨nb,no+k,none⟩) hnb).trans hnc),(bH hW ab (ao+j) (by omega)).trans ((hw.cell (p:=⟨ab,ao+j,none⟩) hab).trans hac)⟩:W.cell? ⟨w.heap.size,10,none⟩=some (.slice (some ⟨ab,ao,none⟩) p.na.length c11)∧W.cell? ⟨w.heap.size,11,none⟩=some (.slice (some ⟨nb,no,none⟩) p.nt.length c12)∧W.cell? ⟨w.heap.size+1,0,none⟩=some (.int .i64 (k:Int))∧W.cell? ⟨w.heap.size+1,3,none⟩=some (.int .i64 prio)∧W.cell? ⟨w.heap.size+1,4,none⟩=some (.int .i64 (j:Int))∧W.cell? ⟨w.heap.size+1,5,none⟩=some (.slice P2 args.length d2)∧W.cell? ⟨nb,no+k,none⟩=some (.string p.nt[k])∧W.cell? ⟨ab,ao+j,none⟩=some (.string p.na[j])))
 have hPt:=aa (fun (W:World) (hW:Below wa.heap.size wa W)=>hp1.lowB aL hw hW)
 have hNu:=aa (fun (W:World) (hW:Below wa.heap.size wa W)=>hp2.lowB aw hw hW)
 have hKd:=aa (fun (W:World) (hW:Below wa.heap.size wa W)=>s2.lowB bX hw hW)
 have hPw:=aa (fun (W:World) (hW:Below wa.heap.size wa W)=>hpw.below (hw.trans (hW.mono hsw)) hpl)
 have hpl':3<wa.heap.size:=by omega
 have hB:=aa (fun (W:World) (hW:Below wa.heap.size wa W)=>hw.trans (hW.mono hsw))
 have lw1:w.heap.size<wa.heap.size:=by omega
 have lw2:w.heap.size+1<wa.heap.size:=by omega
 have ltb:tb<wa.heap.size:=by omega
 have lnb:nb<wa.heap.size:=by omega
 have lab:ab<wa.heap.size:=by omega
 have hptz:=hp1.len
 have haz:=hp2.len
 have hkdl:=s2.len
 have hres:bm p nm ⟨(k:Int),pats,len,prio,⟨(j:Int),args⟩⟩=nm.data.toList++46::(p.nt[k].data.toList++58::32::(join (bY p.tabs[k] ⟨(k:Int),pats,len,prio,⟨(j:Int),args⟩⟩) bR++(dT++(itoa prio++(km++(p.na[j].data.toList++40::(join (args.map bK) bR++jv))))))):=by
  unfold bm
  rw [htab]
  simp only
  rw [hN1,hN2]
 rw [hres]
 have hpa:=aa (fun i (hi:i<pats.length)=>eQ (t:=p.tabs[k]) (e:=⟨(k:Int),pats,len,prio,⟨(j:Int),args⟩⟩) hi)
 have hpl2:=bo p.tabs[k] ⟨(k:Int),pats,len,prio,⟨(j:Int),args⟩⟩
 simp only at hpa hpl2
 generalize bY p.tabs[k] ⟨(k:Int),pats,len,prio,⟨(j:Int),args⟩⟩=PT at*
 generalize p.tabs[k]=t at*
 generalize p.nt[k]=NK at*
 generalize p.na[j]=NJ at*
 have hkn:pats.length≤t.kinds.length:=by omega
 replace hpl2:=aa hpl2
 replace hpk:=aa hpk
 replace hkk:=aa hkk
 replace hsa:=aa hsa
 clear hcz hca hba hbz h hp1 hp2 hw hres hN1 hN2 htab y0 y1 y2 y3 y4 y5 y6 y7 y8 y9 y10 y11 x0 x1 x2 x3 x4 x5 hnc hac hkc s2 hpw ht ha hnt hna hsw hA5 hA11 hA12 ht2 ha2
 go_enter func32,ntmps32
 obtain ⟨z1,z2,z3,z4,z5⟩:=hC.out wa (Hf _ _)
 go_wp2
 go_loopw [7,9,10,16] (fun v7 _ _ v16 wr=>∃ (i:Nat),v16=.int .i64 (i:Int)∧i≤pats.length∧Hid (wk wr wa.heap.size v7 ((PT.take i).map gF))∧Hid (Below wa.heap.size wa wr)) (fun _ _ _ v16 _=>pats.length-(RowKit.intOf v16).toNat)
 case atStart=>exact ⟨0,rfl,Hm _,aa (World.ownsRow_nil _ _ _ _),aa (Hf _ _)⟩
 case round=>
  clear z1 z2 z3 z4 z5
  obtain ⟨i,rfl,hi,hS,hb⟩:=hrel
  obtain ⟨A,cA,rfl⟩:=hS.out.form
  have hlS:((PT.take i).map gF).length=i:=by rw [Hz,HF,hpl2.out];omega
  rw [hlS]
  by_cases hil:i<pats.length
  ·have hiz:(i:Int)<(pats.length:Int):=by omega
   have dk:decide ((i:Int)<(pats.length:Int))=true:=decide_eq_true hiz
   have hikz:(i:Int)<(t.kinds.length:Int):=by omega
   have hik:i<t.kinds.length:=by omega
   obtain ⟨b,o,hP1,hbw,p0,p1,p2,p3,hu⟩:=(hPt.out wr hb.out).pat hil
   obtain ⟨kb,ko,hQ2,hkb,-⟩:=(hKd.out wr hb.out).byte hik
   have hkc:=aa (fun (W:World) (hW:Below wa.heap.size wa W)=>show W.cell? ⟨kb,ko+i,none⟩=some (.int .u8 t.kinds[i]) from by
    obtain ⟨kb',ko',hQ',hkb',hc'⟩:=(hKd.out W hW).byte hik
    rw [hQ2] at hQ'
    injection hQ' with hQ'
    injection hQ' with e1 e2 e3
    subst e1 e2
    exact hc')
   have hPn:=aa (fun (W:World) (hW:Below wa.heap.size wa W)=>xX t.kinds[i] pats[i] len W hu hl0 (by omega) (hPw.out W hW) (He hpl' hW.size))
   have hpi:=hpa.out i hil
   rw [nH hik] at hpi
   have hCs:=aa (fun (W:World) (hW:Below wa.heap.size wa W)=>hC.out W hW)
   subst hP1 hQ2
   generalize t.kinds[i]=kd at*
   generalize pats[i]=x at*
   generalize gT kd x len=TX at*
   obtain ⟨w4,hw4⟩:∃ w4,wr.alloc (.cells #[.int .u64 x.vh,.int .u64 x.vl,.int .u64 x.mh,.int .u64 x.ml] 63)=w4:=⟨_,rfl⟩
   have hb4:Below wr.heap.size wr w4:=hw4 ▸ (Hf _ _).alloc (Hh _) _
   have hx4:fl w4 wr.heap.size x.vh x.vl x.mh x.ml:=by rw [←hw4];exact heap_alloc_new wr _
   have hbw4:=hb.out.trans (hb4.mono hb.out.size)
   have hS4:=aa (hS.out.below hb4 (Hh _))
   have rl:=hx4.lt
   obtain ⟨z1,z2,z3,z4,z5⟩:=hCs.out wa (Hf _ _)
   obtain ⟨g1,-,-,-,-⟩:=hCs.out wr hb.out
   have z6:=hkc.out wa (Hf _ _)
   have hL4:=aa (show wC wa wr.heap.size x w4 from ⟨hbw4,hx4⟩)
   have kbl:kb<wa.heap.size:=hkb
   have hX:=aa (fun (W:World) (hW:Below w4.heap.size w4 W)=>show Calls prog 77 #[.int .u8 kd,zq x,.int .i64 len] W fun e0 w9=>∃ AN cN wB,e0=.returned (.string ⟨TX.toArray⟩)∧(eO #[28,28] 28 #[.slice A i cA,.slice (some ⟨w9.heap.size,0,none⟩) 1 1]).run prog (w9.alloc (.cells #[.string ⟨TX.toArray⟩] 9))=.ok (.slice AN (i+1) cN) wB∧Hid (wk wB wa.heap.size (.slice AN (i+1) cN) ((PT.take (i+1)).map gF))∧Hid (wC wa wr.heap.size x w9)∧Hid (wC wa wr.heap.size x (w9.alloc (.cells #[.string ⟨TX.toArray⟩] 9)))∧Hid (wC wa wr.heap.size x wB) from by
    have hbW:=hbw4.trans (hW.mono hbw4.size)
    refine (hPn.out W hbW).mono ?_
    rintro e0 w9 ⟨rfl,hb9⟩
    have hL9:=(hL4.out.step hW).step hb9
    have hS9:=(hS4.out.below hW (Hh _)).below hb9 (Hh _)
    obtain ⟨v',wB,h1,h2,h3,h4⟩:=vb (gF TX) hS9 (Hj hbW.size hb9.size) (by rw [hlS];omega)
    have e5:(PT.take i).map gF++ [gF TX]=(PT.take (i+1)).map gF:=by
     rw [List.take_add_one,hpi,List.map_append];rfl
    rw [e5] at h2
    obtain ⟨AN,cN,rfl⟩:=h2.form
    have e6:((PT.take (i+1)).map gF).length=i+1:=by rw [Hz,HF,hpl2.out];omega
    rw [hlS,e6] at h1
    rw [e6] at h2
    exact ⟨AN,cN,wB,rfl,h1,aa h2,aa hL9,aa (hL9.step ((Hf _ _).alloc (Hh _) _)),aa (hL9.app h3 h4)⟩)
   replace hw4:=aa hw4
   have hb4':=aa hb4
   clear hb4 hx4 hkc hpa hu hS hS4 hPn hbw4 hpi
   go_upto_region 5 with fail
   rw [hw4.out]
   go_region_held3 (fun W=>wC wa wr.heap.size x W∧W.cell? ⟨wr.heap.size,0,none⟩=some (.int .u64 x.vh)∧W.cell? ⟨wr.heap.size,1,none⟩=some (.int .u64 x.vl)∧W.cell? ⟨wr.heap.size,2,none⟩=some (.int .u64 x.mh)∧W.cell? ⟨wr.heap.size,3,none⟩=some (.int .u64 x.ml)∧∀ b o,b<wa.heap.size→W.cell? ⟨b,o,none⟩=wa.cell? ⟨b,o,none⟩) (first|exact (hL4.out.step (Hf _ _).drew).held|(with_reducible exact hq3.out.held)|(with_reducible exact hq2.out.held)|(with_reducible exact hq1.out.held)) ((go_at_call 77;refine (hX.out _ (by exact (Hf _ _).drew)).mono ?_;rintro e0 w9 ⟨AN,cN,wB,rfl,hrun,hSB,hq1,hq2,hq3⟩))
   all_goals (
    go_wp2
    go_roundw
    ·exact ⟨i+1,by go_num,hil,hSB,aa hq3.out.bel⟩
    ·simp [RowKit.intOf];omega)
  ·obtain rfl:i=pats.length:=by omega
   have dk:decide ((pats.length:Int)<(pats.length:Int))=false:=decide_eq_false (by omega)
   have hPTf:PT.take pats.length=PT:=Ia (by rw [hpl2.out];exact Hh _)
   rw [hPTf] at hS
   obtain ⟨g0,g1,g2,g3,g4,g5,g6,g7⟩:=hD.out wr hb.out
   have lwr1:=He lw1 hb.out.size
   have lwr2:=He lw2 hb.out.size
   have hS0:=aa (hS.out)
   clear hC hpa hlS hS hkn hPt hKd hPTf
   obtain ⟨wo,rfl⟩:∃ wo:World,wo=wr:=⟨_,rfl⟩
   go_wp2
   go_loopw [8,12,43] (fun v8 _ v43 wx=>∃ (m:Nat),v43=.int .i64 (m:Int)∧m≤args.length∧Hid (wk wx wo.heap.size v8 (((args.take m).map bK).map gF))∧Hid (Below wo.heap.size wo wx)) (fun _ _ v43 _=>args.length-(RowKit.intOf v43).toNat)
   case atStart=>exact ⟨0,rfl,Hm _,aa (World.ownsRow_nil _ _ _ _),aa (Hf _ _)⟩
   case round=>
    clear g0 g1 g2 g3 g4 g5 g6 g7
    obtain ⟨m,rfl,hm,hS,hbx⟩:=hrel
    obtain ⟨A8,cA8,rfl⟩:=hS.out.form
    have hlS:(((args.take m).map bK).map gF).length=m:=by rw [Hz,Hz,HF];omega
    rw [hlS]
    have hbw:=hb.out.trans (hbx.out.mono hb.out.size)
    by_cases hml:m<args.length
    ·have hmz:(m:Int)<(args.length:Int):=by omega
     have dk2:decide ((m:Int)<(args.length:Int))=true:=decide_eq_true hmz
     obtain ⟨b,o,hP2,hb2,p0,p1,hu1,hu2⟩:=(hNu.out _ hbw).num hml
     have hargt:(args.map bK)[m]? =some (bK args[m]):=by rw [List.getElem?_map,Hn hml];rfl
     have hT:=aa (fun W=>kF args[m].1 args[m].2 W hu1 hu2)
     have e5:((args.take m).map bK).map gF++ [gF (decDigits (nv args[m].1 args[m].2))]=((args.take (m+1)).map bK).map gF:=by
      rw [HR hml,List.map_append,List.map_append];rfl
     subst hP2
     generalize args[m]=y at*
     obtain ⟨y1,y2⟩:=y
     simp only at p0 p1 hT e5
     generalize decDigits (nv y1 y2)=TX at*
     obtain ⟨w4,hw4,hs4,hb4,hc4,-⟩:=ak wr #[.int .u64 y1,.int .u64 y2] 61
     have s0:=hc4 0
     have s1:=hc4 1
     simp at s0 s1
     have rl:wr.heap.size<w4.heap.size:=by omega
     have hS4:=aa (hS.out.below hb4 (Hh _))
     have hbx4:=aa (hbx.out.trans (hb4.mono hbx.out.size))
     have hl4:=hb4.size
     have hlx:=hbx.out.size
     have hX:=aa (show Calls prog 78 #[.agg #[.int .u64 y1,.int .u64 y2]] w4 fun e0 w9=>∃ AN cN wB,e0=.returned (.string ⟨TX.toArray⟩)∧(eO #[28,28] 28 #[.slice A8 m cA8,.slice (some ⟨w9.heap.size,0,none⟩) 1 1]).run prog (w9.alloc (.cells #[.string ⟨TX.toArray⟩] 9))=.ok (.slice AN (m+1) cN) wB∧Hid (wk wB wo.heap.size (.slice AN (m+1) cN) (((args.take (m+1)).map bK).map gF))∧Hid (Below wo.heap.size wo wB) from by
      refine (hT.out w4).mono ?_
      rintro e0 w9 ⟨rfl,hb9⟩
      obtain ⟨v',wB,h1,h2,h3⟩:=ym (gF TX) (hS4.out.below hb9 (Hh _)) (by have:=hb9.size;omega) (by rw [hlS];omega)
      rw [e5] at h2
      obtain ⟨AN,cN,rfl⟩:=h2.form
      have e6:(((args.take (m+1)).map bK).map gF).length=m+1:=by rw [Hz,Hz,HF];omega
      rw [hlS,e6] at h1
      rw [e6] at h2
      exact ⟨AN,cN,wB,rfl,h1,aa h2,aa ((hbx4.out.trans (hb9.mono (by omega))).trans h3)⟩)
     replace hs4:=aa hs4
     clear hT e5 hS hS4 hbx4 hargt hb4 hc4 hu1 hu2 hNu hpn hD
     go_wp2_with (go_at_call 78;refine hX.out.mono ?_;rintro e0 w9 ⟨AN,cN,wB,rfl,hrun,hSB,hq⟩)
     go_roundw
     ·exact ⟨m+1,by go_num,hml,hSB,hq⟩
     ·simp [RowKit.intOf];omega
    ·obtain rfl:m=args.length:=by omega
     have dk2:decide ((args.length:Int)<(args.length:Int))=false:=decide_eq_false (by omega)
     rw [Ia (Hh _)] at hS
     have e7:(PT.map gF).length=pats.length:=by rw [Hz];exact hpl2.out
     have e8:((args.map bK).map gF).length=args.length:=by rw [Hz,Hz]
     have hS1:=hS0.out
     rw [e7] at hS1
     have hS2:=hS.out
     rw [e8] at hS2
     have hJa:=aa (fun (W:World) (hW:Below wr.heap.size wr W)=>by
      have h9:=Bo (PT.map gF) (.slice A pats.length cA) wa.heap.size W (hS1.below (hbx.out.trans (hW.mono hbx.out.size)) (Hh _)) (by rw [jO];omega) (by rw [e7];omega)
      rw [jO] at h9
      exact h9)
     have hJb:=aa (fun (W:World) (hW:Below wr.heap.size wr W)=>by
      have h9:=Bo ((args.map bK).map gF) (.slice A8 args.length cA8) wo.heap.size W (hS2.below hW (Hh _)) (by rw [jO];omega) (by rw [e8];omega)
      rw [jO] at h9
      exact h9)
     have hIt:=aa (fun (W:World) (hW:Below wr.heap.size wr W)=>AZ prio W hr1 (by omega) (hPw.out W (hbw.trans (hW.mono hbw.size))))
     obtain ⟨g0,g1,g2,g3,g4,g5,g6,g7⟩:=hD.out wr hbw
     have l1:=He lw1 hbw.size
     have l2:=He lw2 hbw.size
     have l3:=He lnb hbw.size
     have l4:=He lab hbw.size
     have hfin:=aa (hB.out wr hbw)
     have hfz:=aa (hB.out wr hbw).size
     generalize hG1:join PT bR=J1 at*
     generalize hG2:join (args.map bK) bR=J2 at*
     generalize hG3:itoa prio=I3 at*
     replace hG1:=aa hG1
     replace hG2:=aa hG2
     replace hG3:=aa hG3
     have q0:¬9223372036854775807<nm.size+1:=by omega
     have q1:¬9223372036854775807<nm.size+1+NK.size:=by omega
     have q2:¬9223372036854775807<nm.size+1+NK.size+2:=by omega
     have q3:¬9223372036854775807<nm.size+1+NK.size+2+J1.length:=by omega
     have q4:¬9223372036854775807<nm.size+1+NK.size+2+J1.length+6:=by omega
     have q5:¬9223372036854775807<nm.size+1+NK.size+2+J1.length+6+I3.length:=by omega
     have q6:¬9223372036854775807<nm.size+1+NK.size+2+J1.length+6+I3.length+4:=by omega
     have q7:¬9223372036854775807<nm.size+1+NK.size+2+J1.length+6+I3.length+4+NJ.size:=by omega
     have q8:¬9223372036854775807<nm.size+1+NK.size+2+J1.length+6+I3.length+4+NJ.size+1:=by omega
     have q9:¬9223372036854775807<nm.size+1+NK.size+2+J1.length+6+I3.length+4+NJ.size+1+J2.length:=by omega
     have q10:¬9223372036854775807<nm.size+1+NK.size+2+J1.length+6+I3.length+4+NJ.size+1+J2.length+3:=by omega
     have hgw:=aE (show Below wr.heap.size wr wr from Hf _ _) (Hh _)
     clear hS hS0 hS1 hS2 e7 e8 hlS hPw hD hB hNu hb hbx hbw hJ1 hJ2 hI3 hnm hn1 hn2 hok hou hpn han hpl2
     go_wp2_with fail
     refine bV ?_
     repeat (any_goals (first|go_big_quiet_step (first|(go_at_call 79;with_reducible exact Hi (hJa.out _ (below_regrown wr _ _)))|(go_at_call 79;with_reducible exact Hi (hJb.out _ (below_regrown wr _ _)))|(go_at_call 80;with_reducible exact Hi (hIt.out _ (below_regrown wr _ _))))|quiet_step (first|(go_at_call 79;with_reducible exact Hi (hJa.out _ (below_regrown wr _ _)))|(go_at_call 79;with_reducible exact Hi (hJb.out _ (below_regrown wr _ _)))|(go_at_call 80;with_reducible exact Hi (hIt.out _ (below_regrown wr _ _))))))
     refine wpQuiet_nil ?_
     intro w9 hw9
     replace hw9:=ac hw9
     go_wp2
     go_ret
     exact ⟨by rw [hG1.out,hG2.out,hG3.out,←BH];rfl,hfin.out.trans (hw9.mono hfz)⟩
end
end Go.Proofs.YtiebolhmdhdagaaGreatDoor

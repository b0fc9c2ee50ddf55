import Derived.Test.YtiebolhmdhdagaaGreatDoorEwp07
set_option linter.all false
set_option maxHeartbeats 8000000
set_option maxRecDepth 100000
open Go.Proofs.Tryz
namespace Go.Proofs.YtiebolhmdhdagaaGreatDoor
open _root_.Nat renaming lt_of_lt_of_le→He, le_refl→Hh, le_trans→Hj, zero_le→Hm, le_of_lt→Hs, lt_succ_self→HA, zero_add→HS, add_zero→HU
open _root_.Go.RowKit.Below renaming refl→Hf
open _root_.Bool renaming false_and→Hg, true_and→Hk, and_eq_true→Hl, or_eq_true→HQ
open _root_.List renaming getElem?_eq_getElem→Hn, getElem_mem→Ho, length_cons→Hp, length_append→Hu, getElem?_toArray→HH, getElem?_cons_zero→HK, getElem?_cons_succ→HM, take_succ_eq_append_getElem→HR, length_nil→HY, take_length→HZ, nil_append→H5, cons_append→H6
open _root_.Int renaming eq_ofNat_of_zero_le→Hv
open Go.RowKit
def iJ (p:Lp) (act:Int) (g:Nat) (st:List Int) (n:Nd) (w:World) (e:Ending) (w':World):Prop:=
 Gr g w w'∧match cX p act st n with
 |some (r,st')=>e=.returned (.int .i64 r)∧ky w' g st'.reverse false
 |none=>(∃ r,e=.returned (.int .i64 r))∧∃ l,ky w' g l true
theorem CX {p:Lp} {act:Int} {g:Nat} {st:List Int} {n:Nd} {w w':World} {e:Ending} (h6:n.op≤6) (he:e=.returned (.int .i64 (rH p act n))) (hg:Gr g w w') (hs:ky w' g st.reverse false):iJ p act g st n w e w':=by
 unfold iJ cX
 rw [if_pos h6]
 exact ⟨hg,he,hs⟩
theorem qO {p:Lp} {act:Int} {g:Nat} {st:List Int} {n:Nd} {w w':World} {r:Int} {l:List Int} (h6:¬n.op≤6) (hn:cX p act st n=none) (hg:Gr g w w') (hs:ky w' g l true):iJ p act g st n w (.returned (.int .i64 r)) w':=by
 unfold iJ
 rw [hn]
 exact ⟨hg,⟨r,rfl⟩,l,hs⟩
theorem sa {p:Lp} {act:Int} {g:Nat} {st:List Int} {w1 r:Int} {n:Nd} {w w':World} (h6:¬n.op≤6) (h1:cG n.op=true) (hr:r=xi n w1) (hg:Gr g w w') (hs:ky w' g st.reverse false):iJ p act g (w1::st) n w (.returned (.int .i64 r)) w':=by
 unfold iJ cX
 rw [if_neg h6]
 simp only [if_pos h1]
 exact ⟨hg,by rw [hr],hs⟩
theorem AF {p:Lp} {act:Int} {g:Nat} {st:List Int} {w1 v1 r:Int} {n:Nd} {w w':World} (h6:¬n.op≤6) (h1:¬cG n.op=true) (hr:r=E9 n.op v1 w1) (hg:Gr g w w') (hs:ky w' g st.reverse false):iJ p act g (w1::v1::st) n w (.returned (.int .i64 r)) w':=by
 unfold iJ cX
 rw [if_neg h6]
 simp only [if_neg h1]
 exact ⟨hg,by rw [hr],hs⟩
theorem AG (A1 A2 A3 A4 A5 A6 A7 A8 A9 A10 A11 A12:Option Addr) (p:Lp) (c1 c2 c3 c4 c5 c6 c7 c8 c9 c10 c11 c12:Nat) (act:Int) (n:Nd) (st:List Int) (g:Nat) (w:World) (h:cJ w g A1 A2 A3 A4 A5 A6 A7 A8 A9 A10 A11 A12 p) (hn:u8 n.op∧aI n.hi∧aI n.lo) (hst:ky w g st.reverse false) (hw:∀ x∈st,1≤x∧x≤128) (hlen:st.length≤100000):
  Calls prog 116 #[.pointer (some ⟨g,0,none⟩),.agg #[.slice A1 p.heads.length c1,.slice A2 p.metas.length c2,.slice A3 p.steps.length c3,.slice A4 p.acts.length c4,.slice A5 p.tabs.length c5,.slice A6 p.control.length c6,.slice A7 p.emit.length c7,.slice A8 p.nh.length c8,.slice A9 p.nf.length c9,.slice A10 p.nm.length c10,.slice A11 p.na.length c11,.slice A12 p.nt.length c12],.int .i64 act,.agg #[.int .u8 n.op,.int .i64 n.w,.int .i64 n.a,.int .i64 n.b,.int .u64 n.hi,.int .u64 n.lo]] w (iJ p act g st n w):=by
 obtain ⟨op,nw,a,b,hi,lo⟩:=n
 simp only at hn ⊢
 have hgl:=hst.lt
 obtain ⟨wz,hwz,hsz,hbz,hcz,-⟩:=ak w #[.slice A1 p.heads.length c1,.slice A2 p.metas.length c2,.slice A3 p.steps.length c3,.slice A4 p.acts.length c4,.slice A5 p.tabs.length c5,.slice A6 p.control.length c6,.slice A7 p.emit.length c7,.slice A8 p.nh.length c8,.slice A9 p.nf.length c9,.slice A10 p.nm.length c10,.slice A11 p.na.length c11,.slice A12 p.nt.length c12] 33
 obtain ⟨wa,hwa,hsa,hba,hca,-⟩:=ak wz #[.int .u8 op,.int .i64 nw,.int .i64 a,.int .i64 b,.int .u64 hi,.int .u64 lo] 110
 have Y:=fun i=>(bH hba w.heap.size i (by omega)).trans (hcz i)
 simp only [hsz] at hca
 have x0:wa.cell? ⟨w.heap.size+1,0,none⟩=some (.int .u8 op):=hca 0
 have x1:wa.cell? ⟨w.heap.size+1,1,none⟩=some (.int .i64 nw):=hca 1
 have x2:wa.cell? ⟨w.heap.size+1,2,none⟩=some (.int .i64 a):=hca 2
 have x3:wa.cell? ⟨w.heap.size+1,3,none⟩=some (.int .i64 b):=hca 3
 have x4:wa.cell? ⟨w.heap.size+1,4,none⟩=some (.int .u64 hi):=hca 4
 have x5:wa.cell? ⟨w.heap.size+1,5,none⟩=some (.int .u64 lo):=hca 5
 have hl1:w.heap.size<wa.heap.size:=by omega
 have hl2:w.heap.size+1<wa.heap.size:=by omega
 have hbw:Below w.heap.size w wa:=hbz.trans (hba.mono (by omega))
 have hG:=aa (Gr.of (g:=g) hbw)
 have hS:=aa (hst.below hbw)
 have hP:=(h.below (hbw.mono (by omega))).more (B':=wa.heap.size) (by omega)
 replace hbw:=aa hbw
 replace hsa:=aa hsa
 by_cases h6:op≤6
 ·have y0:=Y 0
  have y1:=Y 1
  have y2:=Y 2
  have y3:=Y 3
  have y4:=Y 4
  have y5:=Y 5
  have y6:=Y 6
  have y7:=Y 7
  have y8:=Y 8
  have y9:=Y 9
  have y10:=Y 10
  have y11:=Y 11
  simp only [HH,HK,HM] at y0 y1 y2 y3 y4 y5 y6 y7 y8 y9 y10 y11
  have hV:=xH A1 A2 A3 A4 A5 A6 A7 A8 A9 A10 A11 A12 p c1 c2 c3 c4 c5 c6 c7 c8 c9 c10 c11 c12 act ⟨op,nw,a,b,hi,lo⟩ wa hP hn.2
  generalize hgv:rH p act ⟨op,nw,a,b,hi,lo⟩=G at hV
  replace hV:=aa hV
  replace hgv:=aa hgv
  clear hca hcz hba hbz h hP Y hw
  go_enter func116,ntmps116
  go_wp2_with (go_at_call 159;refine hV.out.mono ?_;rintro e w3 ⟨rfl,hb3⟩)
  go_ret
  exact CX h6 (aq hgv.out.symm) (hG.out.trans (Gr.of hb3)) (hS.out.below hb3)
 ·clear hca hcz hba hbz h hP Y
  have hgn:w.heap.size+1≠g:=by omega
  have hgn:w.heap.size+1≠g:=by omega
  match st,hS,hw,hlen with
  | [],hS,hw,hlen=>
   have hN:=aa (nx wa g false hS.out)
   have hd:=aa (show cX p act [] ⟨op,nw,a,b,hi,lo⟩=none from by simp [cX,h6])
   clear hS hw hst
   go_enter func116,ntmps116
   go_wp2_with fail
   refine hN.out.mono ?_
   rintro e w3 ⟨rfl,hs3,hg3⟩
   have hz3:=He hl2 (hg3.size)
   have z0:=(hg3.cell (i:=0) hl2 (by omega)).trans x0
   have z2:=(hg3.cell (i:=2) hl2 (by omega)).trans x2
   have z3:=(hg3.cell (i:=3) hl2 (by omega)).trans x3
   go_wp2_with (go_at_call 160;refine (nx _ g _ hs3).mono ?_;rintro e w4 ⟨rfl,hs4,hg4⟩;have u0:=(hg4.cell (i:=0) hz3 (by omega)).trans z0;have u2:=(hg4.cell (i:=2) hz3 (by omega)).trans z2;have u3:=(hg4.cell (i:=3) hz3 (by omega)).trans z3)
   all_goals go_ret
   all_goals first|exact qO (by simpa using h6) hd.out (hG.out.trans hg3) hs3|exact qO (by simpa using h6) hd.out ((hG.out.trans hg3).trans hg4) hs4
  | [w1],hS,hw,hlen=>
   obtain ⟨hw1,hw2⟩:=hw w1 (by simp)
   have hN:=aa (ny wa g [] w1 false hS.out (by simp))
   have hd:=aa (fun (g:¬cG op=true)=>show cX p act [w1] ⟨op,nw,a,b,hi,lo⟩=none from by simp [cX,h6,g])
   clear hS hw hst
   go_enter func116,ntmps116
   go_wp2_with fail
   refine hN.out.mono ?_
   rintro e w3 ⟨rfl,hs3,hg3⟩
   have hz3:=He hl2 (hg3.size)
   have z0:=(hg3.cell (i:=0) hl2 (by omega)).trans x0
   have z2:=(hg3.cell (i:=2) hl2 (by omega)).trans x2
   have z3:=(hg3.cell (i:=3) hl2 (by omega)).trans x3
   go_wp2_with (go_at_call 160;refine (nx _ g _ hs3).mono ?_;rintro e w4 ⟨rfl,hs4,hg4⟩;have u0:=(hg4.cell (i:=0) hz3 (by omega)).trans z0;have u2:=(hg4.cell (i:=2) hz3 (by omega)).trans z2;have u3:=(hg4.cell (i:=3) hz3 (by omega)).trans z3)
   all_goals go_ret
   all_goals simp only [beq_iff_eq,beq_eq_false_iff_ne] at*
   all_goals first|exact qO (by simpa using h6) (hd.out (by simp [cG, *])) ((hG.out.trans hg3).trans hg4) hs4|exact sa (by simpa using h6) (by simp [cG, *]) (by simp [xi, *]<;>omega) (hG.out.trans hg3) hs3
  |w1::v1::st,hS,hw,hlen=>
   obtain ⟨hw1,hw2⟩:=hw w1 (by simp)
   obtain ⟨hv1,hv2⟩:=hw v1 (by simp)
   simp only [Hp] at hlen
   have hN:=aa (ny wa g (v1::st).reverse w1 false (by rw [←List.reverse_cons];exact hS.out) (by simp;omega))
   clear hS hw hst
   go_enter func116,ntmps116
   go_wp2_with fail
   refine hN.out.mono ?_
   rintro e w3 ⟨rfl,hs3,hg3⟩
   have hz3:=He hl2 (hg3.size)
   have z0:=(hg3.cell (i:=0) hl2 (by omega)).trans x0
   have z2:=(hg3.cell (i:=2) hl2 (by omega)).trans x2
   have z3:=(hg3.cell (i:=3) hl2 (by omega)).trans x3
   go_wp2_with (go_at_call 160;refine (ny _ g st.reverse v1 false (by rw [←List.reverse_cons];exact hs3) (by simp;omega)).mono ?_;rintro e w4 ⟨rfl,hs4,hg4⟩;have u0:=(hg4.cell (i:=0) hz3 (by omega)).trans z0;have u2:=(hg4.cell (i:=2) hz3 (by omega)).trans z2;have u3:=(hg4.cell (i:=3) hz3 (by omega)).trans z3)
   all_goals go_ret
   all_goals simp only [beq_iff_eq,beq_eq_false_iff_ne,bne_iff_ne,bne_eq_false_iff_eq,HQ,Bool.or_eq_false_iff,decide_eq_true_eq,decide_eq_false_iff_not,ne_eq,Decidable.not_not] at*
   all_goals first|exact sa (by simpa using h6) (by simp [cG, *]) (by simp [xi, *]<;>omega) (hG.out.trans hg3) hs3|exact AF (by simpa using h6) (by simp [cG, *]) (by show _=E9 op v1 w1;unfold E9;(repeat' split)<;>omega) ((hG.out.trans hg3).trans hg4) hs4
section
attribute [local go_sem ↓] cU
theorem kB (f:List Int→Nd→Option (List Int)):∀ (a b:List Nd) (st:List Int),bI f st (a++b)=match bI f st a with
  |none=>none
  |some s=>bI f s b
 | [],b,st=>rfl
 |n::a,b,st=>by
  simp only [H6,bI]
  cases f st n with
  |none=>rfl
  |some s=>exact kB f a b s
theorem nz {f:List Int→Nd→Option (List Int)} {c:List Nd} {k:Nat} {st st':List Int} (hk:k<c.length) (h:bI f [] (c.take k)=some st) (hn:f st c[k]=some st'):bI f [] (c.take (k+1))=some st':=by
 rw [HR hk,kB,h]
 simp only [bI,hn]
theorem nC {f:List Int→Nd→Option (List Int)} {c:List Nd} {k:Nat} {st:List Int} (hk:k<c.length) (h:bI f [] (c.take k)=some st) (hn:f st c[k]=none):bI f [] c=none:=by
 have hc:c=c.take k++(c[k]::c.drop (k+1)):=by rw [List.getElem_cons_drop,List.take_append_drop]
 rw [hc,kB,h]
 simp only [bI,hn]
theorem sd {p:Lp} {act:Int} {st:List Int} {n:Nd} {r:Int×List Int} (h:cX p act st n=some r):r.2.length≤st.length:=by
 unfold cX at h
 split at h
 ·cases h;exact Hh _
 ·split at h
  ·cases h
  ·split at h
   ·cases h;simp
   ·split at h
    ·cases h
    ·cases h;simp;omega
theorem AH {p:Lp} {act:Int} {st st':List Int} {n:Nd} (h:cY p act st n=some st'):st'.length≤st.length+1:=by
 unfold cY at h
 cases hd:cX p act st n with
 |none=>rw [hd] at h;cases h
 |some r=>
  obtain ⟨w,s⟩:=r
  have:=sd hd
  rw [hd] at h
  simp only at h this
  split at h
  ·injection h with h;subst h;simp;omega
  ·cases h
theorem se {p:Lp} {act:Int}:∀ (c:List Nd) (st st':List Int),bI (cY p act) st c=some st'→st'.length≤st.length+c.length
 | [],st,st',h=>by simp only [bI] at h;injection h with h;subst h;simp
 |n::c,st,st',h=>by
  simp only [bI] at h
  cases hn:cY p act st n with
  |none=>rw [hn] at h;cases h
  |some s=>
   rw [hn] at h
   have h1:=se c s st' h
   have h2:=AH hn
   simp only [Hp];omega
theorem Sl.node {w:World} {B:Nat} {A:Option Addr} {c:List Nd} (h:Sl 6 Ab w B A c) {i:Nat} (hi:i<c.length):∃ b o,A=some ⟨b,o,none⟩∧b<B∧w.cell? ⟨b,o+i*6,none⟩=some (.int .u8 c[i].op)∧w.cell? ⟨b,o+i*6+1,none⟩=some (.int .i64 c[i].w)∧w.cell? ⟨b,o+i*6+2,none⟩=some (.int .i64 c[i].a)∧w.cell? ⟨b,o+i*6+3,none⟩=some (.int .i64 c[i].b)∧w.cell? ⟨b,o+i*6+4,none⟩=some (.int .u64 c[i].hi)∧w.cell? ⟨b,o+i*6+5,none⟩=some (.int .u64 c[i].lo)∧u8 c[i].op∧aI c[i].hi∧aI c[i].lo:=by
 obtain ⟨b,o,ecs,hA,hb,hl,hc,rfl,h1,h2,h3⟩:=h.2 i c[i] (Hn hi)
 exact ⟨b,o,hA,hb,hc 0 _ rfl,hc 1 _ rfl,hc 2 _ rfl,hc 3 _ rfl,hc 4 _ rfl,hc 5 _ rfl,h1,h2,h3⟩
def Cw (o:Option Int):Value:=.tuple #[.int .i64 (o.getD 0),.bool o.isSome]
theorem iu (A1 A2 A3 A4 A5 A6 A7 A8 A9 A10 A11 A12:Option Addr) (p:Lp) (c1 c2 c3 c4 c5 c6 c7 c8 c9 c10 c11 c12:Nat) (act:Int) (c:List Nd) (A:Option Addr) (cap:Nat) (w:World) (h:cJ w w.heap.size A1 A2 A3 A4 A5 A6 A7 A8 A9 A10 A11 A12 p) (hc:Sl 6 Ab w w.heap.size A c):
  Calls prog 58 #[.agg #[.slice A1 p.heads.length c1,.slice A2 p.metas.length c2,.slice A3 p.steps.length c3,.slice A4 p.acts.length c4,.slice A5 p.tabs.length c5,.slice A6 p.control.length c6,.slice A7 p.emit.length c7,.slice A8 p.nh.length c8,.slice A9 p.nf.length c9,.slice A10 p.nm.length c10,.slice A11 p.na.length c11,.slice A12 p.nt.length c12],.int .i64 act,.slice A c.length cap] w fun e w'=>e=.returned (Cw (fk p act c))∧Below w.heap.size w w':=by
 have hlen:=hc.len
 obtain ⟨wz,hwz,hsz,hbz,hcz,-⟩:=ak w #[.slice A1 p.heads.length c1,.slice A2 p.metas.length c2,.slice A3 p.steps.length c3,.slice A4 p.acts.length c4,.slice A5 p.tabs.length c5,.slice A6 p.control.length c6,.slice A7 p.emit.length c7,.slice A8 p.nh.length c8,.slice A9 p.nf.length c9,.slice A10 p.nm.length c10,.slice A11 p.na.length c11,.slice A12 p.nt.length c12] 33
 replace hbz:=aa hbz
 by_cases h6:65536<c.length
 ·have h6z:(65536:Int)<(c.length:Int):=by omega
  have hv:=aa (show fk p act c=none from by simp [fk,Cr,h6])
  clear hcz h hc
  go_enter func58,ntmps58
  go_wp2
  exact bodyPost_ret (results_tmp2 rfl _ _ _) rfl ⟨by rw [hv.out]<;>rfl,hbz.out⟩
 ·have h6z:¬(65536:Int)<(c.length:Int):=by omega
  obtain ⟨wa,hwa,hsa,hba,hca,hfa⟩:=ak wz #[.slice none 0 0,.bool false] 169
  have Y:=fun i=>(bH hba w.heap.size i (by omega)).trans (hcz i)
  have hbw:Below w.heap.size w wa:=hbz.out.trans (hba.mono (by omega))
  have hst:ky wa (w.heap.size+1) [] false:=⟨.slice none 0 0,by rw [←hwa,←hsz];exact heap_alloc_last wz _,cD.nil_ _ _⟩
  have hP:=aa (h.below hbw)
  have hC:=aa (hc.below bq hbw)
  replace hbw:=aa hbw
  have hl2:w.heap.size+1<wa.heap.size:=by omega
  replace hsa:=aa hsa
  replace hst:=aa hst
  clear hca hcz hba h hc hfa
  go_enter func58,ntmps58
  go_wp2
  go_loopw [10,11,19] (fun _ _ i wr=>∃ (k:Nat) (st:List Int),k≤c.length∧i=.int .i64 k∧Hid (bI (cY p act) [] (c.take k)=some st)∧Hid (ky wr (w.heap.size+1) st.reverse false)∧Hid (Below (w.heap.size+1) wa wr)) (fun _ _ i _=>c.length-(intOf i).toNat)
  case atStart=>exact ⟨0,[],Hm _,rfl,aa rfl,hst,aa (Hf _ _)⟩
  case round=>
   obtain ⟨k,st,hk,rfl,hf,hS,hG⟩:=hrel
   have hwr:w.heap.size+1<wr.heap.size:=hS.out.lt
   have hgo:∀ W,Below (w.heap.size+1) wr W→Below w.heap.size w W:=fun W hW=>hbw.out.trans ((hG.out.trans hW).mono (by omega))
   by_cases hlt:k<c.length
   focus
    have hltz:(k:Int)<(c.length:Int):=by omega
    obtain ⟨b,o,rfl,hb,n0,n1,n2,n3,n4,n5,u1,u2,u3⟩:=(hC.out.below bq (hG.out.mono (by omega))).node hlt
    obtain ⟨wn,hwn,hsn,hbn,hcn,-⟩:=ak wr #[.int .u8 c[k].op,.int .i64 c[k].w,.int .i64 c[k].a,.int .i64 c[k].b,.int .u64 c[k].hi,.int .u64 c[k].lo] 110
    have m0:wn.cell? ⟨wr.heap.size,0,none⟩=some (.int .u8 c[k].op):=hcn 0
    have m1:wn.cell? ⟨wr.heap.size,1,none⟩=some (.int .i64 c[k].w):=hcn 1
    have m2:wn.cell? ⟨wr.heap.size,2,none⟩=some (.int .i64 c[k].a):=hcn 2
    have m3:wn.cell? ⟨wr.heap.size,3,none⟩=some (.int .i64 c[k].b):=hcn 3
    have m4:wn.cell? ⟨wr.heap.size,4,none⟩=some (.int .u64 c[k].hi):=hcn 4
    have m5:wn.cell? ⟨wr.heap.size,5,none⟩=some (.int .u64 c[k].lo):=hcn 5
    have Yn:=fun i=>(bH hbn w.heap.size i (by omega)).trans ((bH hG.out w.heap.size i (by omega)).trans (Y i))
    have y0:=Yn 0
    have y1:=Yn 1
    have y2:=Yn 2
    have y3:=Yn 3
    have y4:=Yn 4
    have y5:=Yn 5
    have y6:=Yn 6
    have y7:=Yn 7
    have y8:=Yn 8
    have y9:=Yn 9
    have y10:=Yn 10
    have y11:=Yn 11
    simp only [HH,HK,HM] at y0 y1 y2 y3 y4 y5 y6 y7 y8 y9 y10 y11
    have hst60:st.length≤65536:=by have:=se _ _ _ hf.out;simp at this;omega
    have hpos:=mO _ _ _ hf.out (by simp)
    have hD:=AG A1 A2 A3 A4 A5 A6 A7 A8 A9 A10 A11 A12 p c1 c2 c3 c4 c5 c6 c7 c8 c9 c10 c11 c12 act c[k] st (w.heap.size+1) wn (((hP.out.below (hG.out.mono (by omega))).below (hbn.mono (by omega))).more (by omega)) ⟨u1,u2,u3⟩ (hS.out.below hbn) (fun x hx=>(aA x).1 (hpos x hx)) (by omega)
    have hwrn:wr.heap.size<wn.heap.size:=by omega
    have hgw:Below (w.heap.size+1) wr wn:=hbn.mono (by omega)
    have hA:=Ag c[k]
    have hns:=aa (fun st' (h:cY p act st c[k]=some st')=>nz (st':=st') hlt hf.out h)
    have hnn:=aa (fun (h:cY p act st c[k]=none)=>show fk p act c=none from by unfold fk Cr;rw [if_neg (by omega),nC hlt hf.out h];rfl)
    replace hgw:=aa hgw
    replace hsn:=aa hsn
    clear hbn hcn Yn hS hf hpos u1 u2 u3
    unfold cY at hns hnn
    unfold iJ at hD
    cases hd:cX p act st c[k] with
    |none=>
     rw [hd] at hD
     replace hnn:=aa (hnn.out (by rw [hd]))
     clear hns
     replace hD:=aa hD
     go_wp2_with (go_at_call 116;refine hD.out.mono ?_;rintro e w3 ⟨hg3,⟨r,rfl⟩,l,hs3⟩;obtain ⟨v,s0,s1,f0,f1,hI⟩:=hs3.cells;have hl3:=hs3.lt)
     refine bodyPost_ret (results_tmp2 rfl _ _ _) rfl ⟨by rw [hnn.out]<;>rfl,hgo _ (hgw.out.trans (hg3.below (Hh _) (by omega)))⟩
    |some r=>
     obtain ⟨r,t1⟩:=r
     rw [hd] at hD
     have hlen1:=sd hd
     have hnn':=fun (h:¬(r=c[k].w∧aj r=true∧fJ c[k]=true))=>hnn.out (by rw [hd];simp only [if_neg h])
     have hns':=fun (h:r=c[k].w∧aj r=true∧fJ c[k]=true)=>hns.out (r::t1) (by rw [hd];simp only [if_pos h])
     clear hns hnn hd
     replace hD:=aa hD
     have hWd:=fun W=>jq r W
     generalize aj r=z1 at hnn' hns' hWd
     generalize fJ c[k]=z2 at hnn' hns' hA
     by_cases e1:r=c[k].w
     ·subst e1
      cases z1 with
      |false=>
       replace hnn':=aa (hnn' fun g=>by cases g.2.1)
       clear hns' hA
       go_wp2_with (first|(go_at_call 116;refine hD.out.mono ?_;rintro e w3 ⟨hg3,rfl,hs3⟩;obtain ⟨v,s0,s1,f0,f1,hI⟩:=hs3.cells;have hl3:=hs3.lt;have q0:=(hg3.cell (i:=0) hwrn (by omega)).trans m0;have q1:=(hg3.cell (i:=1) hwrn (by omega)).trans m1;have q2:=(hg3.cell (i:=2) hwrn (by omega)).trans m2;have q3:=(hg3.cell (i:=3) hwrn (by omega)).trans m3;have q4:=(hg3.cell (i:=4) hwrn (by omega)).trans m4;have q5:=(hg3.cell (i:=5) hwrn (by omega)).trans m5;have q6:=He hwrn hg3.size)|(go_at_call 96;refine (hWd _).mono ?_;rintro e w' ⟨rfl,rfl⟩))
       refine bodyPost_ret (results_tmp2 rfl _ _ _) rfl ⟨by rw [hnn'.out]<;>rfl,hgo _ (hgw.out.trans (hg3.below (Hh _) (by omega)))⟩
      |true=>
       cases z2 with
       |false=>
        replace hnn':=aa (hnn' fun g=>by cases g.2.2)
        clear hns'
        go_wp2_with (first|(go_at_call 116;refine hD.out.mono ?_;rintro e w3 ⟨hg3,rfl,hs3⟩;obtain ⟨v,s0,s1,f0,f1,hI⟩:=hs3.cells;have hl3:=hs3.lt;have q0:=(hg3.cell (i:=0) hwrn (by omega)).trans m0;have q1:=(hg3.cell (i:=1) hwrn (by omega)).trans m1;have q2:=(hg3.cell (i:=2) hwrn (by omega)).trans m2;have q3:=(hg3.cell (i:=3) hwrn (by omega)).trans m3;have q4:=(hg3.cell (i:=4) hwrn (by omega)).trans m4;have q5:=(hg3.cell (i:=5) hwrn (by omega)).trans m5;have q6:=He hwrn hg3.size)|(go_at_call 96;refine (hWd _).mono ?_;rintro e w' ⟨rfl,rfl⟩)|(go_at_call 117;refine (hA _).mono ?_;rintro e w4 ⟨rfl,hb4⟩))
        refine bodyPost_ret (results_tmp2 rfl _ _ _) rfl ⟨by rw [hnn'.out]<;>rfl,hgo _ ((hgw.out.trans (hg3.below (Hh _) (by omega))).trans (hb4.mono (by omega)))⟩
       |true=>
        replace hns':=aa (hns' ⟨rfl,rfl,rfl⟩)
        clear hnn'
        go_upto_region 10 with (first|(go_at_call 116;refine hD.out.mono ?_;rintro e w3 ⟨hg3,rfl,hs3⟩;have hl3:=hs3.lt;obtain ⟨v,hh,hI⟩:=hs3;have s0:w3.cell? ⟨w.heap.size+1,0,none⟩=some v:=(by simp [World.cell?,hh]);have s1:w3.cell? ⟨w.heap.size+1,1,none⟩=some (.bool false):=(by simp [World.cell?,hh]);have f0:w3.frozen? ⟨w.heap.size+1,0,none⟩=false:=(by simp [World.frozen?,hh]);replace hh:=aa hh;have q0:=(hg3.cell (i:=0) hwrn (by omega)).trans m0;have q1:=(hg3.cell (i:=1) hwrn (by omega)).trans m1;have q2:=(hg3.cell (i:=2) hwrn (by omega)).trans m2;have q3:=(hg3.cell (i:=3) hwrn (by omega)).trans m3;have q4:=(hg3.cell (i:=4) hwrn (by omega)).trans m4;have q5:=(hg3.cell (i:=5) hwrn (by omega)).trans m5;have q6:=He hwrn hg3.size)|(go_at_call 96;refine (hWd _).mono ?_;rintro e w' ⟨rfl,rfl⟩)|(go_at_call 117;refine (hA _).mono ?_;rintro e w4 ⟨rfl,hb4⟩))
        obtain ⟨Av,cv,rfl⟩:=hI.form
        obtain ⟨v',w',hr,hI',hB'⟩:=jz c[k].w (hI.below hb4 (Hh _)) (Hj hl3 hb4.size) (by simp [dI];omega)
        obtain ⟨Au,cu,rfl⟩:=hI'.form
        have hS':=aa (ky.set0 hh.out ((hb4.mono hl3).trans hB') hI')
        have hB2:Below (w.heap.size+1) w4 (w'.setCell ⟨w.heap.size+1,0,none⟩ (.slice Au (t1.reverse++ [c[k].w]).length cu)):=(hB'.mono (Nat.le_succ _)).setCell (Hh (w.heap.size+1)) _
        have hB3:=aa ((hg3.below (Hh _) (by omega)).trans ((hb4.mono (Hs hl3)).trans hB2))
        clear hB2
        have s04:=(hb4.cell (p:=⟨w.heap.size+1,0,none⟩) hl3).trans s0
        have f04:=(hb4.frozen (p:=⟨w.heap.size+1,0,none⟩) hl3).trans f0
        have s05:=(hB'.cell (p:=⟨w.heap.size+1,0,none⟩) (HA _)).trans s04
        have f05:=(hB'.frozen (p:=⟨w.heap.size+1,0,none⟩) (HA _)).trans f04
        have hl4:=He hl3 hb4.size
        have hl5:=He hl4 hB'.size
        simp only [Hu,List.length_reverse,Hp,HY,HS] at hr hS' hB3 s04 s05
        clear hI hI' hB' hb4 hg3 s0 s1 f0
        go_wp2
        go_roundw
        case rel=>exact ⟨k+1,c[k].w::t1,by omega,by go_num,hns',by rw [List.reverse_cons];exact hS',aa (hG.out.trans (hgw.out.trans hB3.out))⟩
        case measure=>simp [intOf];omega
     ·replace hnn':=aa (hnn' fun g=>e1 g.1)
      clear hns'
      go_wp2_with (go_at_call 116;refine hD.out.mono ?_;rintro e w3 ⟨hg3,rfl,hs3⟩;obtain ⟨v,s0,s1,f0,f1,hI⟩:=hs3.cells;have hl3:=hs3.lt;have q1:=(hg3.cell (i:=1) hwrn (by omega)).trans m1;have q0:=He hwrn hg3.size)
      refine bodyPost_ret (results_tmp2 rfl _ _ _) rfl ⟨by rw [hnn'.out]<;>rfl,hgo _ (hgw.out.trans (hg3.below (Hh _) (by omega)))⟩
   rotate_right
   focus
    have hke:k=c.length:=by omega
    subst hke
    rw [HZ] at hf
    obtain ⟨v,s0,s1,f0,f1,hI⟩:=hS.out.cells
    obtain ⟨A',cap',rfl,hSl⟩:=hI.sl
    have hv:=aa (show fk p act c=rI (some st) from by unfold fk Cr;rw [if_neg (by omega),hf.out])
    have hbE:=aa (hgo _ (Hf _ _))
    have hx:st.length=1→∃ x,st= [x]:=fun h=>by
     match st,h with
     | [x],_=>exact ⟨x,rfl⟩
    simp only [List.length_reverse] at s0
    by_cases h1:st.length=1
    focus
     obtain ⟨x,rfl⟩:=hx h1
     obtain ⟨b,o,rfl,hb,hcx⟩:=hSl.int (i:=0) (by simp)
     simp only [List.reverse_cons,List.reverse_nil,H5,List.getElem_cons_zero,HU] at hcx
    rotate_right
    focus
     have hne:((st.length:Int) !=1)=true:=by rw [bne_iff_ne];omega
     have hl0:rI (some st)=none:=by
      match st,h1 with
      | [],_=>rfl
      | [x],h1=>exact absurd rfl h1
      |x::y::l,_=>rfl
     rw [hl0] at hv
   all_goals
    clear hx hSl hI hS
    go_wp2
    exact bodyPost_ret (results_tmp2 rfl _ _ _) rfl ⟨by rw [hv.out]<;>rfl,hbE.out⟩
end
theorem dt {α:Type} (l:List α) (i:Int):(∃ k:Nat,i=k∧∃ h:k<l.length,eG l i=some l[k])∨(eG l i=none∧dJ l.length i=false∧¬(0≤i∧i<l.length)):=by
 by_cases h:0≤i∧i<l.length
 ·obtain ⟨k,rfl⟩:=Hv h.1
  exact .inl ⟨k,rfl,by omega,iQ k (by omega)⟩
 ·exact .inr ⟨Sl.nth_no h,cj h,h⟩
theorem uy (A1 A2 A3 A4 A5 A6 A7 A8 A9 A10 A11 A12:Option Addr) (p:Lp) (c1 c2 c3 c4 c5 c6 c7 c8 c9 c10 c11 c12:Nat) (act:Int) (n:Nd) (w:World) (h:cJ w w.heap.size A1 A2 A3 A4 A5 A6 A7 A8 A9 A10 A11 A12 p) (hn:aI n.hi∧aI n.lo):Calls prog 126 #[.agg #[.slice A1 p.heads.length c1,.slice A2 p.metas.length c2,.slice A3 p.steps.length c3,.slice A4 p.acts.length c4,.slice A5 p.tabs.length c5,.slice A6 p.control.length c6,.slice A7 p.emit.length c7,.slice A8 p.nh.length c8,.slice A9 p.nf.length c9,.slice A10 p.nm.length c10,.slice A11 p.na.length c11,.slice A12 p.nt.length c12],.int .i64 act,.agg #[.int .u8 n.op,.int .i64 n.w,.int .i64 n.a,.int .i64 n.b,.int .u64 n.hi,.int .u64 n.lo]] w fun e w'=>e=.returned (.int .i64 (xh p act n))∧Below w.heap.size w w':=by
 obtain ⟨op,nw,a,b,hi,lo⟩:=n
 simp only at hn ⊢
 obtain ⟨wz,hwz,hsz,hbz,hcz,-⟩:=ak w #[.slice A1 p.heads.length c1,.slice A2 p.metas.length c2,.slice A3 p.steps.length c3,.slice A4 p.acts.length c4,.slice A5 p.tabs.length c5,.slice A6 p.control.length c6,.slice A7 p.emit.length c7,.slice A8 p.nh.length c8,.slice A9 p.nf.length c9,.slice A10 p.nm.length c10,.slice A11 p.na.length c11,.slice A12 p.nt.length c12] 33
 obtain ⟨wa,hwa,hsa,hba,hca,-⟩:=ak wz #[.int .u8 op,.int .i64 nw,.int .i64 a,.int .i64 b,.int .u64 hi,.int .u64 lo] 110
 have Y:=fun i=>(bH hba w.heap.size i (by omega)).trans (hcz i)
 have y0:=Y 0
 have y1:=Y 1
 have y3:=Y 3
 simp only [HH,HK,HM] at y0 y1 y3
 rw [hsz] at hca
 have x0:wa.cell? ⟨w.heap.size+1,0,none⟩=some (.int .u8 op):=hca 0
 have x1:wa.cell? ⟨w.heap.size+1,1,none⟩=some (.int .i64 nw):=hca 1
 have x2:wa.cell? ⟨w.heap.size+1,2,none⟩=some (.int .i64 a):=hca 2
 have x3:wa.cell? ⟨w.heap.size+1,3,none⟩=some (.int .i64 b):=hca 3
 have x4:wa.cell? ⟨w.heap.size+1,4,none⟩=some (.int .u64 hi):=hca 4
 have x5:wa.cell? ⟨w.heap.size+1,5,none⟩=some (.int .u64 lo):=hca 5
 have hl1:w.heap.size<wa.heap.size:=by omega
 have hl2:w.heap.size+1<wa.heap.size:=by omega
 have hw:Below w.heap.size w wa:=hbz.trans (hba.mono (by omega))
 have hS:=(h.below hw).more hw.size
 have hA1:=aa hS.heads
 have hA2:=aa hS.metas
 have hA4:=aa hS.acts
 have lA1:=hS.heads.len
 have lA4:=hS.acts.len
 replace hw:=aa hw
 replace hsa:=aa hsa
 have hw':=aa (fun o=>hw.out.alloc hw.out.size o)
 have hI':=aa (fun (l:List Int) (A':Option Addr) (g:Sl 1 bd wa wa.heap.size A' l) (o:Obj)=>(g.alloc ai (Hh _) o).more (B':=(wa.alloc o).heap.size) ai (by simp))
 clear hca hcz hba hbz h hS Y
 have hv:=aa (show xh p act ⟨op,nw,a,b,hi,lo⟩=if op=1 then (if a=0∧b=0∧aj nw=true∧bN nw hi lo=true then nw else 0) else if ¬(hi=0∧lo=0)∨(op≠2∧b≠0) then 0 else eW p act op a b from rfl)
 go_enter func126,ntmps126
 by_cases o1:op=1
 ·subst o1
  have hF:=fun W=>gl hi lo nw W hn
  have hK:=qC nw
  generalize bN nw hi lo=F at hF hv
  generalize aj nw=K at hK hv
  replace hF:=aa hF
  by_cases ha:a=0
  ·subst ha
   by_cases hb:b=0
   ·subst hb
    cases K<;>cases F
    all_goals go_wp2_with (first|(go_at_call 121;refine (hK _).mono ?_;rintro e w' ⟨rfl,rfl⟩)|(go_at_call 125;refine (hF.out _).mono ?_;rintro e w3 ⟨rfl,hb3⟩;have kb3:=iF hb3;have q1:=He hl2 (Hj (by simp) hb3.size);replace hb3:=aa hb3))
    all_goals go_ret
    all_goals first|exact ⟨aq (by rw [hv.out];simp),hw'.out _⟩|exact ⟨aq (by rw [hv.out];simp),(hw'.out _).trans (hb3.out.mono (hw'.out _).size)⟩
   ·go_wp2
    go_ret
    exact ⟨aq (by rw [hv.out];simp [hb]),hw'.out _⟩
  ·go_wp2
   go_ret
   exact ⟨aq (by rw [hv.out];simp [ha]),hw'.out _⟩
 ·rw [if_neg o1] at hv
  by_cases k1:hi=0∧lo=0
  ·obtain ⟨rfl,rfl⟩:=k1
   by_cases k2:op≠2∧b≠0
   ·rw [if_pos (.inr k2)] at hv
    obtain ⟨k2,k3⟩:=k2
    have k4:(op !=2)=true:=bne_iff_ne.2 k2
    have k5:(b !=0)=true:=bne_iff_ne.2 k3
    go_wp2
    go_ret
    exact ⟨aq hv.out.symm,hw'.out _⟩
   ·rw [if_neg (by simp only [and_self,not_true_eq_false,false_or];exact k2)] at hv
    by_cases o2:op=2
    ·subst o2
     rcases dt p.heads a with ⟨k,rfl,hk,e1⟩|⟨e1,e2,e3⟩
     ·obtain ⟨g,o,A',c',rfl,hg,hcl,hsl⟩:=hA1.out.ints hk
      have hkz:(k:Int)<(p.heads.length:Int):=by omega
      have hv2:=aa (show eW p act 2 (k:Int) b=rn p.heads[k] b from by simp [eW,e1])
      replace hsl:=aa hsl
      go_wp2_with fail
      go_quiet ((go_at_call 167;exact de (qE _ _ _ _ _ (((hI'.out _ _ hsl.out _).drewN ai _).more ai (by simp)))))
      go_wp2
      go_ret
      exact ⟨aq (by rw [hv.out,hv2.out]),au (hw'.out _) _⟩
     ·have hv2:=aa (show eW p act 2 a b=0 from by simp [eW,e1,qA])
      by_cases ha:0≤a
      ·have hax:¬a<(p.heads.length:Int):=by omega
       go_wp2
       go_ret
       exact ⟨aq (by rw [hv.out,hv2.out]),hw'.out _⟩
      ·go_wp2
       go_ret
       exact ⟨aq (by rw [hv.out,hv2.out]),hw'.out _⟩
    ·have hb:b=0:=by
      by_cases hb:b=0
      ·exact hb
      ·exact absurd ⟨o2,hb⟩ k2
     subst hb
     by_cases o3:op=3
     ·subst o3
      go_wp2_with (go_at_call 167;refine (qE _ _ _ _ _ (hI'.out _ _ hA2.out _)).mono ?_;rintro e w' ⟨rfl,rfl⟩)
      go_ret
      exact ⟨aq (by rw [hv.out];rfl),hw'.out _⟩
     ·by_cases o4:op=4
      ·subst o4
       rcases dt p.acts act with ⟨k,rfl,hk,e1⟩|⟨e1,e2,e3⟩
       ·obtain ⟨g,o,ecs,rfl,hg,hn',hcell,B1,B2,d1,d2,rfl,hs1,hs2⟩:=hA4.out.2 k _ (Hn hk)
        have t0:wa.cell? ⟨g,o+k*2,none⟩=some (.slice B1 p.acts[k].params.length d1):=hcell 0 _ rfl
        have t1:wa.cell? ⟨g,o+k*2+1,none⟩=some (.slice B2 p.acts[k].body.length d2):=hcell 1 _ rfl
        have hkz:(k:Int)<(p.acts.length:Int):=by omega
        have hv2:=aa (show eW p (k:Int) 4 a 0=rn p.acts[k].params a from by simp [eW,e1])
        replace hs1:=aa hs1
        clear hcell hs2
        go_wp2_with fail
        go_quiet ((go_at_call 167;exact de (qE _ _ _ _ _ (((hI'.out _ _ hs1.out _).drewN ai _).more ai (by simp)))))
        go_wp2
        go_ret
        exact ⟨aq (by rw [hv.out,hv2.out]),au (hw'.out _) _⟩
       ·have hv2:=aa (show eW p act 4 a 0=0 from by simp [eW,e1,qA])
        by_cases ha:0≤act
        ·have hax:¬act<(p.acts.length:Int):=by omega
         go_wp2
         go_ret
         exact ⟨aq (by rw [hv.out,hv2.out]),hw'.out _⟩
        ·go_wp2
         go_ret
         exact ⟨aq (by rw [hv.out,hv2.out]),hw'.out _⟩
      ·by_cases o5:op=5
       ·subst o5
        by_cases ha:a=0
        ·subst ha
         go_wp2
         go_ret
         exact ⟨aq (by rw [hv.out];rfl),hw'.out _⟩
        ·go_wp2
         go_ret
         exact ⟨aq (by rw [hv.out];simp [eW,ha]),hw'.out _⟩
       ·by_cases o6:op=6
        ·subst o6
         rcases dt p.heads a with ⟨k,rfl,hk,e1⟩|⟨e1,e2,e3⟩
         ·have hkz:(k:Int)<(p.heads.length:Int):=by omega
          go_wp2
          go_ret
          exact ⟨aq (by rw [hv.out];simp [eW,eY hk]),hw'.out _⟩
         ·by_cases ha:0≤a
          ·have hax:¬a<(p.heads.length:Int):=by omega
           go_wp2
           go_ret
           exact ⟨aq (by rw [hv.out];simp [eW,e2]),hw'.out _⟩
          ·go_wp2
           go_ret
           exact ⟨aq (by rw [hv.out];simp [eW,e2]),hw'.out _⟩
        ·go_wp2
         go_ret
         exact ⟨aq (by rw [hv.out];simp [eW,o2,o3,o4,o5,o6]),hw'.out _⟩
  ·rw [if_pos (.inl k1)] at hv
   by_cases k2:hi=0
   ·have k3:¬lo=0:=fun g=>k1 ⟨k2,g⟩
    subst k2
    go_wp2
    go_ret
    exact ⟨aq hv.out.symm,hw'.out _⟩
   ·go_wp2
    go_ret
    exact ⟨aq hv.out.symm,hw'.out _⟩
theorem kS (n:Nd) (v:Int) (w:World) (h1:cG n.op=true) (hv:1≤v∧v≤128):Calls prog 127 #[.agg #[.int .u8 n.op,.int .i64 n.w,.int .i64 n.a,.int .i64 n.b,.int .u64 n.hi,.int .u64 n.lo],.int .i64 v] w fun e w'=>e=.returned (.int .i64 (qw n v))∧Below w.heap.size w w':=by
 obtain ⟨hv1,hv2⟩:=hv
 obtain ⟨op,nw,a,b,hi,lo⟩:=n
 simp only
 obtain ⟨wa,hwa,hsa,hba,hca,-⟩:=ak w #[.int .u8 op,.int .i64 nw,.int .i64 a,.int .i64 b,.int .u64 hi,.int .u64 lo] 110
 have x0:wa.cell? ⟨w.heap.size,0,none⟩=some (.int .u8 op):=hca 0
 have x2:wa.cell? ⟨w.heap.size,2,none⟩=some (.int .i64 a):=hca 2
 have x3:wa.cell? ⟨w.heap.size,3,none⟩=some (.int .i64 b):=hca 3
 have hlt:w.heap.size<wa.heap.size:=by omega
 replace hba:=aa hba
 replace hsa:=aa hsa
 clear hca
 simp only [cG,HQ,decide_eq_true_eq] at h1
 have hop:op=7∨op=8∨op=9∨op=13∨op=14:=by omega
 go_enter func127,ntmps127
 rcases hop with rfl|rfl|rfl|rfl|rfl
 all_goals
  go_wp2
  all_goals go_ret
  all_goals refine ⟨aq ?_,hba.out⟩
  all_goals try simp only [beq_iff_eq,beq_eq_false_iff_ne,bne_iff_ne,bne_eq_false_iff_eq,HQ,Bool.or_eq_false_iff,Hl,Bool.and_eq_false_iff,decide_eq_true_eq,decide_eq_false_iff_not,ne_eq,Decidable.not_not] at*
  all_goals (unfold qw;(repeat' split)<;>first|omega|(simp_all<;>omega))
theorem xJ (n:Nd) (v u:Int) (w:World) (hv:1≤v∧v≤128) (hu:1≤u∧u≤128):Calls prog 128 #[.agg #[.int .u8 n.op,.int .i64 n.w,.int .i64 n.a,.int .i64 n.b,.int .u64 n.hi,.int .u64 n.lo],.int .i64 v,.int .i64 u] w fun e w'=>e=.returned (.int .i64 (Ec n v u))∧Below w.heap.size w w':=by
 obtain ⟨hv1,hv2⟩:=hv
 obtain ⟨hu1,hu2⟩:=hu
 obtain ⟨op,nw,a,b,hi,lo⟩:=n
 simp only
 obtain ⟨wa,hwa,hsa,hba,hca,-⟩:=ak w #[.int .u8 op,.int .i64 nw,.int .i64 a,.int .i64 b,.int .u64 hi,.int .u64 lo] 110
 have x0:wa.cell? ⟨w.heap.size,0,none⟩=some (.int .u8 op):=hca 0
 have x2:wa.cell? ⟨w.heap.size,2,none⟩=some (.int .i64 a):=hca 2
 have x3:wa.cell? ⟨w.heap.size,3,none⟩=some (.int .i64 b):=hca 3
 have hlt:w.heap.size<wa.heap.size:=by omega
 replace hba:=aa hba
 replace hsa:=aa hsa
 clear hca
 go_enter func128,ntmps128
 go_wp2
 all_goals go_ret
 all_goals refine ⟨aq ?_,hba.out⟩
 all_goals try simp only [beq_iff_eq,beq_eq_false_iff_ne,bne_iff_ne,bne_eq_false_iff_eq,HQ,Bool.or_eq_false_iff,Hl,Bool.and_eq_false_iff,decide_eq_true_eq,decide_eq_false_iff_not,ne_eq,Decidable.not_not] at*
 all_goals (unfold Ec;(repeat' split)<;>first|omega|(simp_all<;>omega))
def gC (x:Int×Int) (w:Int):Bool:=bN w x.1 x.2
theorem AI (x:Int×Int) (y:Int) (W:World) (h:aI x.1∧aI x.2):Calls prog 115 #[.agg #[.int .u64 x.1,.int .u64 x.2],.int .i64 y] W fun e w'=>e=.returned (.bool (gC x y))∧Below W.heap.size W w':=cL x.1 x.2 y W h
theorem uz (A A':Option Addr) (cap cap':Nat) (xs:List (Int×Int)) (ys:List Int) (w:World) (h:Sl 2 ke w w.heap.size A xs) (h':Sl 1 bd w w.heap.size A' ys):
  Calls prog 114 #[.slice A xs.length cap,.slice A' ys.length cap',.func (.func 115) #[] #[]] w fun e w'=>e=.returned (.bool (ci gC xs ys))∧Below w.heap.size w w':=by
 have hl:=h.len
 have hl':=h'.len
 have eg:∀ args w,(callFunc 115 args).run prog w=.ok (.enter 115 args) w:=enters_of func115 (by kernel_rfl) rfl
 go_enter func114,ntmps114
 by_cases he:xs.length=ys.length
 ·have hez:((xs.length:Int) !=(ys.length:Int))=false:=by rw [he];exact bne_self_eq_false _
  have hv:=aa (show ci gC xs ys=am (fun i=>aK (fun x=>aK (gC x) ys i) xs i) xs.length from by unfold ci;rw [decide_eq_true he,Hk])
  replace he:=aa he
  go_wp2
  go_loopw [7,8,9,17] (fun _ _ _ i wr=>∃ k:Nat,k≤xs.length∧i=.int .i64 k∧Hid (am (fun i=>aK (fun x=>aK (gC x) ys i) xs i) k=true)∧Hid (Below w.heap.size w wr)) (fun _ _ _ i _=>xs.length-(intOf i).toNat)
  case atStart=>exact ⟨0,Hm _,rfl,aa rfl,aa (Hf _ _)⟩
  case round=>
   obtain ⟨k,hk,rfl,hc,hbr⟩:=hrel
   by_cases hlt:k<xs.length
   ·have hlt':k<ys.length:=by have:=he.out;omega
    have hkz:(k:Int)<(xs.length:Int):=by omega
    have hkz':(k:Int)<(ys.length:Int):=by omega
    obtain ⟨b,o,ecs,rfl,hb,hn,hcell,rfl,hy⟩:=h.2 k _ (Hn hlt)
    obtain ⟨b',o',rfl,hb',hc'⟩:=h'.int hlt'
    have hcw:=fun j u hu=>(hbr.out.cell (p:=⟨b,o+k*2+j,none⟩) hb).trans (hcell j u hu)
    have yc:=(hbr.out.cell (p:=⟨b',o'+k,none⟩) hb').trans hc'
    have hstep:am (fun i=>aK (fun x=>aK (gC x) ys i) xs i) (k+1)=gC xs[k] ys[k]:=by
     rw [am,hc.out,Hk,ag _ hlt,ag _ hlt']
    have hwr:=hbr.out.size
    clear h h' hcell hc
    generalize hxk:xs[k]=x at*
    generalize hyk:ys[k]=y at*
    have x0:wr.cell? ⟨b,o+k*2,none⟩=some (.int .u64 x.1):=by simpa using hcw 0 _ rfl
    have x1:wr.cell? ⟨b,o+k*2+1,none⟩=some (.int .u64 x.2):=hcw 1 _ rfl
    obtain ⟨wn,hwn,hsn,hbn,hcn,-⟩:=ak wr #[.int .u64 x.1,.int .u64 x.2] 61
    have m0:wn.cell? ⟨wr.heap.size,0,none⟩=some (.int .u64 x.1):=hcn 0
    have m1:wn.cell? ⟨wr.heap.size,1,none⟩=some (.int .u64 x.2):=hcn 1
    have ycn:=(hbn.cell (p:=⟨b',o'+k,none⟩) (He hb' hwr)).trans yc
    have hK:=AI x y wn hy
    have hlo:=aa (fun (g:gC x y=false)=>show am (fun i=>aK (fun x=>aK (gC x) ys i) xs i) xs.length=false from aN hlt (by rw [ag _ hlt,ag _ hlt',hxk,hyk];exact g))
    have hbw:=aa (hbr.out.trans (hbn.mono hwr))
    have hwn2:wr.heap.size<wn.heap.size:=by omega
    replace hsn:=aa hsn
    replace hstep:=aa hstep
    clear hcn hbn hbr hcw
    generalize gC x y=F at hK hstep hlo
    replace hK:=aa hK
    cases F with
    |false=>
     replace hlo:=aa (hlo.out rfl)
     go_wp2_with (go_at_fn 115;refine hK.out.mono ?_;rintro e w3 ⟨rfl,hb3⟩)
     go_ret
     exact ⟨ad (by rw [hv.out,hlo.out]),hbw.out.trans (hb3.mono (by have:=hbw.out.size;omega))⟩
    |true=>
     go_wp2_with (go_at_fn 115;refine hK.out.mono ?_;rintro e w3 ⟨rfl,hb3⟩)
     go_roundw
     case rel=>exact ⟨k+1,by omega,by go_num,hstep,aa (hbw.out.trans (hb3.mono (by have:=hbw.out.size;omega)))⟩
     case measure=>simp [intOf];omega
   ·have hke:k=xs.length:=by omega
    subst hke
    go_wp2
    go_ret
    exact ⟨ad (by rw [hv.out,hc.out]),hbr.out⟩
 ·have hez:((xs.length:Int) !=(ys.length:Int))=true:=by rw [bne_iff_ne];omega
  have hv:=aa (show ci gC xs ys=false from by unfold ci;rw [decide_eq_false he,Hg])
  clear h h'
  go_wp2
  go_ret
  exact ⟨ad hv.out.symm,Hf _ _⟩
theorem nD (A:Option Addr) (cap:Nat) (xs:List Int) (n:Int) (w:World) (h:Sl 1 bd w w.heap.size A xs):
  Calls prog 99 #[.slice A xs.length cap,.int .i64 n] w fun e w'=>e=.returned (.int .i64 (aU xs n))∧w=w':=by
 have hl:=h.len
 go_enter func99,ntmps99
 go_wp2
 go_loop [8] (fun i=>∃ k:Nat,k≤xs.length∧i=.int .i64 k∧n∉xs.take k) (fun i=>xs.length-(intOf i).toNat)
 case atStart=>exact ⟨0,Hm _,rfl,by simp⟩
 case round=>
  obtain ⟨k,hk,rfl,hc⟩:=hrel
  by_cases hlt:k<xs.length
  ·obtain ⟨b,o,rfl,hb,hcell⟩:=h.int hlt
   clear h
   by_cases he:xs[k]=n
   ·have ht:(n==xs[k])=true:=by simp [he]
    have hv:=aa (ji hlt hc he)
    clear he
    go_wp2
    go_ret
    exact ⟨aq hv.out.symm,rfl⟩
   ·have ht:(n==xs[k])=false:=by simp;exact fun e=>he e.symm
    have hv:=aa (cM hlt hc he)
    clear he
    go_wp2
    go_round
    case rel=>exact ⟨k+1,by omega,by go_num,hv.out⟩
    case measure=>simp [intOf];omega
  ·have hv:=aa (rz (dB hk hlt hc))
   go_wp2
   go_ret
   exact ⟨aq hv.out.symm,rfl⟩
theorem qP {α:Type} [DecidableEq α] (l:List α) (a:α):decide (0≤aU l a)=decide (a∈l):=by
 unfold aU
 by_cases h:a∈l<;>simp [h]
theorem d9 (A:Option Addr) (cap:Nat) (xs:List Int) (n:Int) (w:World) (h:Sl 1 bd w w.heap.size A xs):
  Calls prog 113 #[.slice A xs.length cap,.int .i64 n] w fun e w'=>e=.returned (.bool (decide (n∈xs)))∧w=w':=by
 have hv:=aa (qP xs n)
 go_enter func113,ntmps113
 go_wp2_with (go_at_call 99;refine (nD _ _ _ _ _ h).mono ?_;rintro e w' ⟨rfl,rfl⟩)
 go_ret
 exact ⟨ad hv.out,rfl⟩
theorem nE (A:Option Addr) (cap:Nat) (xs:List Int) (n:Int) (w:World) (h:Sl 1 bd w w.heap.size A xs):
  Calls prog 122 #[.slice A xs.length cap,.int .i64 n] w fun e w'=>e=.returned (.bool (decide (n∈xs)))∧w=w':=by
 have hl:=h.len
 go_enter func122,ntmps122
 go_wp2
 go_loop [5] (fun i=>∃ k:Nat,k≤xs.length∧i=.int .i64 k∧n∉xs.take k) (fun i=>xs.length-(intOf i).toNat)
 case atStart=>exact ⟨0,Hm _,rfl,by simp⟩
 case round=>
  obtain ⟨k,hk,rfl,hc⟩:=hrel
  by_cases hlt:k<xs.length
  ·obtain ⟨b,o,rfl,hb,hcell⟩:=h.int hlt
   have hltz:(k:Int)<(xs.length:Int):=by omega
   clear h
   by_cases he:xs[k]=n
   ·have ht:(xs[k]==n)=true:=by simp [he]
    have hv:=aa (show n∈xs from by rw [←he];exact Ho _)
    clear he
    go_wp2
    go_ret
    exact ⟨ad (decide_eq_true hv.out).symm,rfl⟩
   ·have ht:(xs[k]==n)=false:=by simp;exact he
    have hv:=aa (cM hlt hc he)
    clear he
    go_wp2
    go_round
    case rel=>exact ⟨k+1,by omega,by go_num,hv.out⟩
    case measure=>simp [intOf];omega
  ·have hv:=aa (dB hk hlt hc)
   go_wp2
   go_ret
   exact ⟨ad (decide_eq_false hv.out).symm,rfl⟩
theorem AJ {p:Lp} {l:List Int} {r:Rn} (h:eG p.acts r.act=none):dD p l r=false:=by unfold dD;rw [h]
theorem AK {p:Lp} {l:List Int} {r:Rn} {a:qv} (h:eG p.acts r.act=some a):dD p l r=(decide (r.act∈l)&&ci gC r.args a.params):=by unfold dD;rw [h];rfl
theorem nF (A1 A2 A3 A4 A5 A6 A7 A8 A9 A10 A11 A12:Option Addr) (p:Lp) (c1 c2 c3 c4 c5 c6 c7 c8 c9 c10 c11 c12:Nat) (A' B:Option Addr) (cap' d:Nat) (l:List Int) (r:Rn) (w:World) (h:cJ w w.heap.size A1 A2 A3 A4 A5 A6 A7 A8 A9 A10 A11 A12 p) (hl:Sl 1 bd w w.heap.size A' l) (hr:Sl 2 ke w w.heap.size B r.args):
  Calls prog 57 #[.agg #[.slice A1 p.heads.length c1,.slice A2 p.metas.length c2,.slice A3 p.steps.length c3,.slice A4 p.acts.length c4,.slice A5 p.tabs.length c5,.slice A6 p.control.length c6,.slice A7 p.emit.length c7,.slice A8 p.nh.length c8,.slice A9 p.nf.length c9,.slice A10 p.nm.length c10,.slice A11 p.na.length c11,.slice A12 p.nt.length c12],.slice A' l.length cap',.agg #[.int .i64 r.act,.slice B r.args.length d]] w fun e w'=>e=.returned (.bool (dD p l r))∧Below w.heap.size w w':=by
 obtain ⟨act,args⟩:=r
 simp only at hr ⊢
 obtain ⟨wz,hwz,hsz,hbz,hcz,-⟩:=ak w #[.slice A1 p.heads.length c1,.slice A2 p.metas.length c2,.slice A3 p.steps.length c3,.slice A4 p.acts.length c4,.slice A5 p.tabs.length c5,.slice A6 p.control.length c6,.slice A7 p.emit.length c7,.slice A8 p.nh.length c8,.slice A9 p.nf.length c9,.slice A10 p.nm.length c10,.slice A11 p.na.length c11,.slice A12 p.nt.length c12] 33
 obtain ⟨wa,hwa,hsa,hba,hca,-⟩:=ak wz #[.int .i64 act,.slice B args.length d] 55
 have y3:=(bH hba w.heap.size 3 (by omega)).trans (hcz 3)
 simp only [HH,HK,HM] at y3
 rw [hsz] at hca
 have x0:wa.cell? ⟨w.heap.size+1,0,none⟩=some (.int .i64 act):=hca 0
 have x1:wa.cell? ⟨w.heap.size+1,1,none⟩=some (.slice B args.length d):=hca 1
 have hl1:w.heap.size<wa.heap.size:=by omega
 have hl2:w.heap.size+1<wa.heap.size:=by omega
 have hw:Below w.heap.size w wa:=hbz.trans (hba.mono (by omega))
 have hA4:=aa ((h.acts.below io hw).more io hw.size)
 have hL:=aa ((hl.below ai hw).more ai hw.size)
 have hR:=aa ((hr.below aw hw).more aw hw.size)
 replace hw:=aa hw
 replace hsa:=aa hsa
 clear hca hcz hba hbz h hl hr
 go_enter func57,ntmps57
 rcases dt p.acts act with ⟨k,rfl,hk,e1⟩|⟨e1,e2,e3⟩
 ·have hv:=aa (AK (p:=p) (l:=l) (r:=⟨(k:Int),args⟩) e1)
  have e4:=eY hk
  have e5:((eG p.acts (k:Int)).map qv.params).getD []=p.acts[k].params:=by rw [e1];rfl
  have hAt:=qD A4 c4 p.acts (k:Int) wa hA4.out
  rw [e4] at hAt
  simp only [e5] at hAt
  replace hAt:=aa hAt
  by_cases hm:(k:Int)∈l
  ·rw [decide_eq_true hm,Hk] at hv
   have hCt:=fun W (g:Sl 1 bd W W.heap.size A' l)=>d9 A' cap' l (k:Int) W g
   rw [decide_eq_true hm] at hCt
   clear hm
   generalize hG:ci gC args p.acts[k].params=G at hv
   go_wp2_with (first|(go_at_call 112;refine hAt.out.mono ?_;rintro e w3 ⟨A1',c1',A2',n2',c2',rfl,hs,hb3⟩;have kb3:=iF hb3;have hq:=He hl2 hb3.size;have hE:∀ o,Below wa.heap.size wa (w3.alloc o):=(fun o=>hb3.alloc hb3.size o);have hs3:=aa (fun o=>(hs.below ai (hE o)).more ai (hE o).size);have hL3:=aa (fun o=>(hL.out.below ai (hE o)).more ai (hE o).size);have hR3:=aa (fun o=>(hR.out.below aw (hE o)).more aw (hE o).size);replace hb3:=aa hE)|(go_at_call 113;refine (hCt _ (hL3.out _)).mono ?_;rintro e w' ⟨rfl,rfl⟩)|(go_at_call 114;refine (uz _ _ _ _ _ _ _ (hR3.out _) (hs3.out _)).mono ?_;rintro e w4 ⟨rfl,hb4⟩;rw [hG]))
   go_ret
   exact ⟨ad hv.out.symm,hw.out.trans (((hb3.out _).mono hw.out.size).trans (hb4.mono (Hj hw.out.size (hb3.out _).size)))⟩
  ·rw [decide_eq_false hm,Hg] at hv
   have hCt:=fun W (g:Sl 1 bd W W.heap.size A' l)=>d9 A' cap' l (k:Int) W g
   rw [decide_eq_false hm] at hCt
   clear hm
   go_wp2_with (first|(go_at_call 112;refine hAt.out.mono ?_;rintro e w3 ⟨A1',c1',A2',n2',c2',rfl,hs,hb3⟩;have kb3:=iF hb3;have hq:=He hl2 hb3.size;have hE:∀ o,Below wa.heap.size wa (w3.alloc o):=(fun o=>hb3.alloc hb3.size o);have hL3:=aa (fun o=>(hL.out.below ai (hE o)).more ai (hE o).size);replace hb3:=aa hE)|(go_at_call 113;refine (hCt _ (hL3.out _)).mono ?_;rintro e w' ⟨rfl,rfl⟩))
   go_ret
   exact ⟨ad hv.out.symm,hw.out.trans ((hb3.out _).mono hw.out.size)⟩
 ·have hv:=aa (AJ (p:=p) (l:=l) (r:=⟨act,args⟩) e1)
  have hAt:=qD A4 c4 p.acts act wa hA4.out
  rw [e2] at hAt
  replace hAt:=aa hAt
  go_wp2_with (go_at_call 112;refine hAt.out.mono ?_;rintro e w3 ⟨A1',c1',A2',n2',c2',rfl,hs,hb3⟩;have hE:∀ o,Below wa.heap.size wa (w3.alloc o):=(fun o=>hb3.alloc hb3.size o);replace hb3:=aa hE)
  go_ret
  exact ⟨ad hv.out.symm,hw.out.trans ((hb3.out _).mono hw.out.size)⟩
end Go.Proofs.YtiebolhmdhdagaaGreatDoor

import Derived.Test.YtijcdfdbkffiaaaGreatDoorCbp01
set_option linter.all false
set_option maxHeartbeats 1000000
open Go.Proofs.Tryz
namespace Go.Proofs.YtijcdfdbkffiaaaGreatDoor
open _root_.Go.RowKit.Below renaming refl→Hs
open _root_.Nat renaming le_refl→Ht, le_trans→Hw, pow_le_pow_right→Ii
open _root_.Bool renaming false_and→Hu, true_and→Hx, and_eq_true→Hy, eq_iff_iff→HF, or_eq_true→HS, false_eq_true→H2
open _root_.Go.Calls renaming regrown_of→Hv
open _root_.List renaming getElem?_eq_getElem→HA, getElem_mem→HE, length_append→HM, length_cons→HN, all_eq_true→HT, mem_cons→HU, range→HX, mem_append→HZ, getElem_of_mem→H0, mem_range→H5, eq_nil_of_length_eq_zero→Ie
open _root_.Go.Sort renaming grow→HG
open _root_.Int renaming eq_ofNat_of_zero_le→HH, toNat_natCast→HQ
open _root_.Option renaming getD_some→If
open Go.RowKit
def ez:List (Int×Int)→Int→Int
 | [],_=>0
 |x::M,i=>if i=x.1 then x.2 else ez M i
def gc:List (Int×Int)→Int→Int→List (Int×Int)
 | [],i,v=> [(i,v)]
 |x::M,i,v=>if i=x.1 then (i,v)::M else x::gc M i v
theorem nJ (M:List (Int×Int)) (i v j:Int):ez (gc M i v) j=if j=i then v else ez M j:=by
 induction M with
 |nil=>simp [gc,ez]
 |cons x M ih=>
  simp only [gc]
  by_cases h:i=x.1
  ·subst h
   simp only [if_true,ez]
   split<;>simp_all
  ·simp only [if_neg h,ez,ih]
   by_cases h2:j=x.1
   ·simp only [if_pos h2]
    rw [if_neg (by omega)]
   ·simp only [if_neg h2]
def bF (d:List (Int×Int)→Int→Bool×List (Int×Int)):List (Int×Int)→List Int→Bool×List (Int×Int)
 |M,[]=>(false,M)
 |M,x::l=>if (d M x).1=true then (true,(d M x).2) else bF d (d M x).2 l
def gI (g:Int→List Int):Nat→List (Int×Int)→Int→Bool×List (Int×Int)
 |0,M,_=>(false,M)
 |f+1,M,i=>if i<0 then (false,M) else if 0<ez M i then (ez M i==1,M) else
  ((bF (gI g f) (gc M i 1) (g i)).1,gc (bF (gI g f) (gc M i 1) (g i)).2 i 2)
def white (n:Nat) (M:List (Int×Int)):Nat:=((HX n).filter fun j:Nat=>decide (ez M (j:Int)=0)).length
inductive iI (g:Int→List Int):Int→Int→Prop
 |one {i t:Int}:t∈g i→0≤t→iI g i t
 |more {i t u:Int}:iI g i t→u∈g t→0≤u→iI g i u
theorem iI.cons {g:Int→List Int} {i t u:Int} (h:t∈g i) (h0:0≤t) (hr:iI g t u):iI g i u:=by
 induction hr with
 |one a b=>exact .more (.one h h0) a b
 |more _ a b ih=>exact .more ih a b
theorem iI.stay {g:Int→List Int} {S:Int→Prop} (hS:∀ j,S j→∀ t∈g j,0≤t→S t) {i t:Int} (h:iI g i t) (hi:S i):S t:=by
 induction h with
 |one a b=>exact hS _ hi _ a b
 |more _ a b ih=>exact hS _ ih _ a b
theorem iI.into {g:Int→List Int} {S:Int→Prop} (hS:∀ j,S j→∀ t∈g j,0≤t→S t) {i t:Int} (h:iI g i t) (hi:∀ t∈g i,0≤t→S t):S t:=by
 induction h with
 |one a b=>exact hi _ a b
 |more _ a b ih=>exact hS _ ih _ a b
structure DI (g:Int→List Int) (M:List (Int×Int)):Prop where
 val:∀ j,ez M j=0∨ez M j=1∨ez M j=2
 shut:∀ j,ez M j=2→∀ t∈g j,0≤t→ez M t=2
 none:∀ j,ez M j=2→¬iI g j j
structure vF (n:Nat) (M M':List (Int×Int)):Prop where
 gray:∀ j,ez M' j=1↔ez M j=1
 black:∀ j,ez M j=2→ez M' j=2
 white:white n M'≤white n M
theorem vF.refl (n:Nat) (M:List (Int×Int)):vF n M M:=⟨fun _=>Iff.rfl,fun _ h=>h,Ht _⟩
theorem vF.trans {n:Nat} {M M' M'':List (Int×Int)} (a:vF n M M') (b:vF n M' M''):vF n M M'':=⟨fun j=>(b.gray j).trans (a.gray j),fun j h=>b.black j (a.black j h),Hw b.white a.white⟩
theorem nK {α:Type} {p q:α→Bool} (l:List α) (h:∀ x,p x=true→q x=true):(l.filter p).length≤(l.filter q).length:=by
 induction l with
 |nil=>simp
 |cons x l ih=>
  by_cases hx:p x=true
  ·simp only [List.filter_cons,hx,h x hx,if_true,HN];omega
  ·by_cases hy:q x=true
   ·simp only [List.filter_cons,hx,hy,if_true,H2,if_false,HN];omega
   ·simp only [List.filter_cons,hx,hy,H2,if_false];exact ih
theorem kV {n:Nat} {M M':List (Int×Int)} (h:∀ j,ez M' j=0→ez M j=0):white n M'≤white n M:=by
 refine nK _ fun j hj=> ?_
 simp only [decide_eq_true_eq] at hj ⊢
 exact h _ hj
theorem vG {α:Type} {p q:α→Bool} (l:List α) (h:∀ x,p x=true→q x=true) {a:α} (ha:a∈l) (hq:q a=true) (hp:p a=false):(l.filter p).length<(l.filter q).length:=by
 induction l with
 |nil=>simp at ha
 |cons x l ih=>
  have hle:(l.filter p).length≤(l.filter q).length:=nK l h
  rcases HU.1 ha with rfl|ha
  ·simp only [List.filter_cons,hq,hp,if_true,H2,if_false,HN];omega
  ·have:=ih ha
   by_cases hx:p x=true
   ·simp only [List.filter_cons,hx,h x hx,if_true,HN];omega
   ·by_cases hy:q x=true
    ·simp only [List.filter_cons,hx,hy,if_true,H2,if_false,HN];omega
    ·simp only [List.filter_cons,hx,hy,H2,if_false];exact this
theorem nM {n:Nat} {M:List (Int×Int)} {i:Int} (h0:0≤i) (h1:i<n) (hz:ez M i=0):white n (gc M i 1)<white n M:=by
 obtain ⟨k,rfl⟩:=HH h0
 refine vG (a:=k) _ (fun j hj=> ?_) (H5.2 (by omega)) (by simpa using hz) (by simp [nJ])
 simp only [decide_eq_true_eq,nJ] at hj ⊢
 split at hj
 ·omega
 ·exact hj
theorem oR {g:Int→List Int} {n:Nat} {d:List (Int×Int)→Int→Bool×List (Int×Int)} {F:Nat} {Gr:Int→Prop}:∀ (l:List Int) (M:List (Int×Int)),white n M≤F→DI g M→(∀ j,ez M j=1→Gr j)→
  (∀ x∈l,∀ M,white n M≤F→DI g M→(∀ j,ez M j=1→Gr j)→((d M x).1=true→∃ j,0≤j∧iI g j j)∧((d M x).1=false→DI g (d M x).2∧vF n M (d M x).2∧(0≤x→ez (d M x).2 x=2)))→
  ((bF d M l).1=true→∃ j,0≤j∧iI g j j)∧((bF d M l).1=false→DI g (bF d M l).2∧vF n M (bF d M l).2∧∀ x∈l,0≤x→ez (bF d M l).2 x=2)
 | [],M,_,hb,_,_=>by
  simp only [bF]
  exact ⟨fun h=>(by cases h),fun _=>⟨hb,vF.refl _ _,fun x hx=>by simp at hx⟩⟩
 |x::l,M,hw,hb,hg,h=>by
  have hx:=h x (by simp) M hw hb hg
  simp only [bF]
  by_cases hr:(d M x).1=true
  ·simp only [if_pos hr];exact ⟨fun _=>hx.1 hr,fun h=>by cases h⟩
  ·simp only [if_neg hr]
   obtain ⟨h1,h2,h3⟩:=hx.2 (by simpa using hr)
   have hi:=oR l (d M x).2 (Hw h2.white hw) h1 (fun j hj=>hg j ((h2.gray j).1 hj)) (fun y hy=>h y (by simp [hy]))
   refine ⟨hi.1,fun hf=> ?_⟩
   obtain ⟨k1,k2,k3⟩:=hi.2 hf
   refine ⟨k1,h2.trans k2,fun y hy hy0=> ?_⟩
   rcases HU.1 hy with rfl|hy
   ·exact k2.black _ (h3 hy0)
   ·exact k3 y hy hy0
theorem yW {g:Int→List Int} {n:Nat} (hg:∀ i,∀ t∈g i,t<n):∀ (f:Nat) (M:List (Int×Int)) (i:Int),white n M<f→i<n→DI g M→(∀ j,ez M j=1→iI g j i)→
  ((gI g f M i).1=true→∃ j,0≤j∧iI g j j)∧((gI g f M i).1=false→DI g (gI g f M i).2∧vF n M (gI g f M i).2∧(0≤i→ez (gI g f M i).2 i=2))
 |0,M,i,hw,_,_,_=>by omega
 |f+1,M,i,hw,hi,hb,hgr=>by
  simp only [gI]
  by_cases h0:i<0
  ·simp only [if_pos h0];exact ⟨fun h=>(by cases h),fun _=>⟨hb,vF.refl _ _,fun h=>by omega⟩⟩
  ·simp only [if_neg h0]
   rcases hb.val i with hv|hv|hv
   ·rw [if_neg (by omega)]
    have hM1:∀ j,ez (gc M i 1) j=if j=i then 1 else ez M j:=fun j=>nJ M i 1 j
    have hb1:DI g (gc M i 1):=⟨fun j=>by
      rw [hM1]
      split
      ·exact .inr (.inl rfl)
      ·exact hb.val j,fun j hj t ht ht0=>by
      rw [hM1] at hj ⊢
      split at hj
      ·omega
      ·have:=hb.shut j hj t ht ht0
       rw [if_neg (fun e=>by subst e;omega)];exact this,fun j hj=>by
      rw [hM1] at hj
      split at hj
      ·omega
      ·exact hb.none j hj⟩
    have hw1:=nM (n:=n) (by omega) hi hv
    have ha:=oR (g:=g) (n:=n) (d:=gI g f) (F:=white n (gc M i 1)) (Gr:=fun j=>j=i∨iI g j i) (g i) (gc M i 1) (Ht _) hb1 (fun j hj=>by
      rw [hM1] at hj
      split at hj
      ·left;assumption
      ·right;exact hgr j hj) (fun x hx M' hw' hb' hg'=>by
      by_cases hx0:0≤x
      ·refine yW hg f M' x (by omega) (hg i x hx) hb' fun j hj=> ?_
       rcases hg' j hj with rfl|h
       ·exact .one hx hx0
       ·exact .more h hx hx0
      ·cases f with
       |zero=>omega
       |succ f=>
        simp only [gI,if_pos (show x<0 by omega)]
        exact ⟨fun h=>(by cases h),fun _=>⟨hb',vF.refl _ _,fun h=>by omega⟩⟩)
    refine ⟨ha.1,fun hf=> ?_⟩
    obtain ⟨k1,k2,k3⟩:=ha.2 hf
    have hA:=bF (gI g f) (gc M i 1) (g i)
    have hgi:ez (bF (gI g f) (gc M i 1) (g i)).2 i=1:=(k2.gray i).2 (by rw [hM1,if_pos rfl])
    have hN:∀ j,ez (gc (bF (gI g f) (gc M i 1) (g i)).2 i 2) j=if j=i then 2 else ez (bF (gI g f) (gc M i 1) (g i)).2 j:=fun j=>nJ _ i 2 j
    refine ⟨⟨fun j=> ?_,fun j hj t ht ht0=> ?_,fun j hj=> ?_⟩,⟨fun j=> ?_,fun j hj=> ?_,?_⟩,fun _=>by rw [hN,if_pos rfl]⟩
    ·rw [hN]
     split
     ·exact .inr (.inr rfl)
     ·exact k1.val j
    ·rw [hN] at hj ⊢
     by_cases hti:t=i
     ·rw [if_pos hti]
     ·rw [if_neg hti]
      by_cases hji:j=i
      ·subst hji;exact k3 t ht ht0
      ·rw [if_neg hji] at hj;exact k1.shut j hj t ht ht0
    ·by_cases hji:j=i
     ·subst hji
      intro hr
      have:=iI.into (S:=fun t=>ez (bF (gI g f) (gc M j 1) (g j)).2 t=2) (fun a ha t ht ht0=>k1.shut a ha t ht ht0) hr (fun t ht ht0=>k3 t ht ht0)
      omega
     ·rw [hN,if_neg hji] at hj;exact k1.none j hj
    ·rw [hN]
     by_cases hji:j=i
     ·subst hji;rw [if_pos rfl];omega
     ·rw [if_neg hji,k2.gray,hM1,if_neg hji]
    ·have hji:j≠i:=fun e=>by subst e;omega
     rw [hN,if_neg hji]
     exact k2.black j (by rw [hM1,if_neg hji];exact hj)
    ·refine kV fun j hj=> ?_
     rw [hN] at hj
     split at hj
     ·omega
     ·rename_i hji
      rcases hb.val j with h|h|h
      ·exact h
      ·have:=(k2.gray j).2 (by rw [hM1,if_neg hji];exact h);omega
      ·have:=k2.black j (by rw [hM1,if_neg hji];exact h);omega
   ·rw [if_pos (by omega),hv]
    exact ⟨fun _=>⟨i,by omega,hgr i hv⟩,fun h=>by simp at h⟩
   ·rw [if_pos (by omega),hv]
    exact ⟨fun h=>by simp at h,fun _=>⟨hb,vF.refl _ _,fun _=>by first|exact hv|rfl⟩⟩
def en (n:Nat):List Int:=(HX n).map (fun k:Nat=>(k:Int))
theorem qf (n:Nat) (M:List (Int×Int)):white n M≤n:=by
 unfold white
 have:=List.length_filter_le (fun j:Nat=>decide (ez M (j:Int)=0)) (HX n)
 rw [List.length_range] at this;exact this
theorem Ck {g:Int→List Int} {n:Nat} (hg:∀ i,∀ t∈g i,t<n):(bF (gI g (n+1)) [] (en n)).1=true↔∃ i:Nat,i<n∧iI g (i:Int) (i:Int):=by
 have h:=oR (g:=g) (n:=n) (d:=gI g (n+1)) (F:=n) (Gr:=fun _=>False) (en n) [] (qf _ _) ⟨fun j=>.inl rfl,fun j h=>by simp [ez] at h,fun j h=>by simp [ez] at h⟩ (fun j h=>by simp [ez] at h)
  (fun x hx M hw hb hgr=>yW hg (n+1) M x (by omega) (by simp only [en,List.mem_map,H5] at hx;obtain ⟨k,hk,rfl⟩:=hx;omega) hb (fun j hj=>(hgr j hj).elim))
 constructor
 ·intro ht
  obtain ⟨j,h0,hr⟩:=h.1 ht
  obtain ⟨k,rfl⟩:=HH h0
  refine ⟨k,?_,hr⟩
  have:∀ {a b:Int},iI g a b→b<n:=fun hr=>by
   cases hr with
   |one a _=>exact hg _ _ a
   |more _ a _=>exact hg _ _ a
  have:=this hr
  omega
 ·rintro ⟨i,hi,hr⟩
  cases hc:(bF (gI g (n+1)) [] (en n)).1 with
  |true=>rfl
  |false=>
   obtain ⟨k1,k2,k3⟩:=h.2 hc
   exact absurd hr (k1.none _ (k3 _ (by simp only [en,List.mem_map,H5];exact ⟨i,hi,rfl⟩) (by omega)))
def j7 (s:Int):List Int→List Int→List Int→Option (List Int×List Int)
 |seen,next,[]=>some (seen,next)
 |seen,next,t::l=>if t=s then none else if 0≤t∧t∉seen then j7 s (seen++ [t]) (next++ [t]) l else j7 s seen next l
def uA (g:Int→List Int) (s:Int):List Int→List Int→List Int→Option (List Int×List Int)
 |seen,next,[]=>some (seen,next)
 |seen,next,i::l=>match j7 s seen next (g i) with
  |none=>none
  |some r=>uA g s r.1 r.2 l
def yz (g:Int→List Int) (s:Int):Nat→List Int→List Int→Bool
 |_,_,[]=>false
 |0,_,_::_=>false
 |f+1,seen,i::now=>match uA g s seen [] (i::now) with
  |none=>true
  |some r=>yz g s f r.1 r.2
structure Sn (g:Int→List Int) (n:Nat) (s:Int) (seen:List Int):Prop where
 nodup:seen.Nodup
 mem:∀ t∈seen,0≤t∧t<n∧t≠s∧iI g s t
theorem sL {g:Int→List Int} {n:Nat} {s i:Int} (hg:∀ i,∀ t∈g i,t<n) (hi:i=s∨iI g s i):∀ (l seen next:List Int),(∀ t∈l,t∈g i)→Sn g n s seen→
  match j7 s seen next l with
  |none=>0≤s→iI g s s
  |some (seen',next')=>∃ m,seen'=seen++m∧next'=next++m∧Sn g n s seen'∧∀ t∈l,t≠s∧(0≤t→t∈seen')
 | [],seen,next,_,hs=>by simp only [j7];exact ⟨[],by simp,by simp,hs,fun t ht=>by simp at ht⟩
 |t::l,seen,next,hl,hs=>by
  have ht:t∈g i:=hl t (by simp)
  simp only [j7]
  by_cases h1:t=s
  ·simp only [if_pos h1]
   intro h0
   subst h1
   rcases hi with rfl|hi
   ·exact .one ht h0
   ·exact .more hi ht h0
  ·simp only [if_neg h1]
   by_cases h2:0≤t∧t∉seen
   ·simp only [if_pos h2]
    have hs':Sn g n s (seen++ [t]):=⟨by rw [List.nodup_append];exact ⟨hs.nodup,by simp,fun a ha b hb=>by simp at hb;subst hb;exact fun e=>h2.2 (e ▸ ha)⟩,fun u hu=>by
     rcases HZ.1 hu with hu|hu
     ·exact hs.mem u hu
     ·simp at hu;subst hu
      refine ⟨h2.1,hg i _ ht,h1,?_⟩
      rcases hi with rfl|hi
      ·exact .one ht h2.1
      ·exact .more hi ht h2.1⟩
    have:=sL hg hi l (seen++ [t]) (next++ [t]) (fun u hu=>hl u (by simp [hu])) hs'
    revert this
    cases j7 s (seen++ [t]) (next++ [t]) l with
    |none=>exact fun h=>h
    |some r=>
     rintro ⟨m,e1,e2,h3,h4⟩
     refine ⟨t::m,by simp [e1],by simp [e2],h3,fun u hu=> ?_⟩
     rcases HU.1 hu with rfl|hu
     ·exact ⟨h1,fun _=>by rw [e1];simp⟩
     ·exact h4 u hu
   ·simp only [if_neg h2]
    have:=sL hg hi l seen next (fun u hu=>hl u (by simp [hu])) hs
    revert this
    cases j7 s seen next l with
    |none=>exact fun h=>h
    |some r=>
     rintro ⟨m,e1,e2,h3,h4⟩
     refine ⟨m,e1,e2,h3,fun u hu=> ?_⟩
     rcases HU.1 hu with rfl|hu
     ·refine ⟨h1,fun h0=> ?_⟩
      rw [e1]
      have:u∈seen:=by
       by_cases hm:u∈seen
       ·exact hm
       ·exact absurd ⟨h0,hm⟩ h2
      simp [this]
     ·exact h4 u hu
theorem yX {g:Int→List Int} {n:Nat} {s:Int} (hg:∀ i,∀ t∈g i,t<n):∀ (l seen next:List Int),(∀ i∈l,i=s∨iI g s i)→Sn g n s seen→
  match uA g s seen next l with
  |none=>0≤s→iI g s s
  |some (seen',next')=>∃ m,seen'=seen++m∧next'=next++m∧Sn g n s seen'∧∀ i∈l,∀ t∈g i,t≠s∧(0≤t→t∈seen')
 | [],seen,next,_,hs=>by simp only [uA];exact ⟨[],by simp,by simp,hs,fun t ht=>by simp at ht⟩
 |i::l,seen,next,hl,hs=>by
  have h1:=sL hg (hl i (by simp)) (g i) seen next (fun _ h=>h) hs
  simp only [uA]
  revert h1
  cases hp:j7 s seen next (g i) with
  |none=>exact fun h=>h
  |some r=>
   obtain ⟨s1,n1⟩:=r
   rintro ⟨m,e1,e2,h3,h4⟩
   have h5:=yX hg l s1 n1 (fun j hj=>hl j (by simp [hj])) h3
   revert h5
   simp only
   cases uA g s s1 n1 l with
   |none=>exact fun h=>h
   |some q=>
    rintro ⟨m2,e3,e4,h6,h7⟩
    refine ⟨m++m2,by simp [e3,e1],by simp [e4,e2],h6,fun j hj t ht=> ?_⟩
    rcases HU.1 hj with rfl|hj
    ·exact ⟨(h4 t ht).1,fun h0=>by rw [e3];simp [(h4 t ht).2 h0]⟩
    ·exact h7 j hj t ht
theorem vH {l:List Int}:∀ {m:List Int},l.Nodup→l ⊆ m→l.length≤m.length:=by
 induction l with
 |nil=>intro m _ _;simp
 |cons x l ih=>
  intro m h hs
  rw [List.nodup_cons] at h
  have hx:x∈m:=hs (by simp)
  have:=ih (m:=m.erase x) h.2 fun y hy=>(List.mem_erase_of_ne (fun e=>h.1 (by rw [←e];exact hy))).2 (hs (by simp [hy]))
  rw [List.length_erase_of_mem hx] at this
  have hp:0<m.length:=List.length_pos_of_mem hx
  simp only [HN];omega
theorem jr {n:Nat} {l:List Int} (h:l.Nodup) (hb:∀ t∈l,0≤t∧t<n):l.length≤n:=by
 have hs:l ⊆ en n:=fun t ht=>by
  obtain ⟨h0,h1⟩:=hb t ht
  obtain ⟨k,rfl⟩:=HH h0
  simp only [en,List.mem_map,H5]
  exact ⟨k,by omega,rfl⟩
 have:=vH h hs
 simpa [en] using this
theorem yY {g:Int→List Int} {n:Nat} {s:Int} (h0:0≤s) (hg:∀ i,∀ t∈g i,t<n):∀ (f:Nat) (seen now:List Int),n+1≤seen.length+f→(now= []∨n<seen.length+f)→Sn g n s seen→(∀ i∈now,i=s∨iI g s i)→(∀ i,(i=s∨i∈seen)→i∉now→∀ t∈g i,t≠s∧(0≤t→t∈seen))→
  (yz g s f seen now=true↔iI g s s)
 |f,seen,[],_,_,hs,_,hc=>by
  simp only [yz,H2,false_iff]
  intro hr
  have:=iI.into (S:=fun t=>t∈seen) (fun j hj t ht ht0=>(hc j (.inr hj) (by simp) t ht).2 ht0) hr (fun t ht ht0=>(hc s (.inl rfl) (by simp) t ht).2 ht0)
  exact (hs.mem s this).2.2.1 rfl
 |0,seen,i::now,hf,_,hs,_,_=>by
  have:=jr hs.nodup (fun t ht=>⟨(hs.mem t ht).1,(hs.mem t ht).2.1⟩)
  omega
 |f+1,seen,i::now,hf,_,hs,hn,hc=>by
  have h1:=yX hg (i::now) seen [] hn hs
  simp only [yz]
  revert h1
  cases hp:uA g s seen [] (i::now) with
  |none=>intro h;simpa using h h0
  |some r=>
   obtain ⟨s1,n1⟩:=r
   rintro ⟨m,e1,e2,h3,h4⟩
   simp only [List.nil_append] at e2
   subst e2
   have hlen:=jr h3.nodup (fun t ht=>⟨(h3.mem t ht).1,(h3.mem t ht).2.1⟩)
   by_cases hm:n1= []
   ·subst hm
    simp only [List.append_nil] at e1
    subst e1
    have hf0:yz g s f s1 []=false:=by cases f<;>rfl
    simp only [hf0,H2,false_iff]
    intro hr
    have hcl:∀ j,(j=s∨j∈s1)→∀ t∈g j,t≠s∧(0≤t→t∈s1):=fun j hj t ht=>by
     by_cases hj2:j∈i::now
     ·exact h4 j hj2 t ht
     ·exact hc j hj hj2 t ht
    have:=iI.into (S:=fun t=>t∈s1) (fun j hj t ht ht0=>(hcl j (.inr hj) t ht).2 ht0) hr (fun t ht ht0=>(hcl s (.inl rfl) t ht).2 ht0)
    exact (h3.mem s this).2.2.1 rfl
   ·have hml:1≤n1.length:=by cases n1 with
     |nil=>exact absurd rfl hm
     |cons a b=>simp
    have hl1:s1.length=seen.length+n1.length:=by rw [e1,HM]
    refine yY h0 hg f s1 n1 (by omega) (.inr (by omega)) h3 (fun j hj=>.inr (h3.mem j (by rw [e1];simp [hj])).2.2.2) (fun j hj hjn t ht=> ?_)
    by_cases hj2:j∈i::now
    ·exact h4 j hj2 t ht
    ·have:j=s∨j∈seen:=by
      rcases hj with hj|hj
      ·exact .inl hj
      ·rw [e1] at hj
       rcases HZ.1 hj with hj|hj
       ·exact .inr hj
       ·exact absurd hj hjn
     have h5:=hc j this hj2 t ht
     exact ⟨h5.1,fun ht0=>by rw [e1];simp [h5.2 ht0]⟩
theorem uB {g:Int→List Int} {n:Nat} {s:Int} (h0:0≤s) (hg:∀ i,∀ t∈g i,t<n):yz g s (n+1) [] [s]=true↔iI g s s:=
 yY h0 hg (n+1) [] [s] (by simp) (.inr (by simp)) ⟨List.nodup_nil,fun t h=>by simp at h⟩ (fun i hi=>by simp at hi;exact .inl hi) (fun i hi hn=>by
  rcases hi with rfl|hi
  ·simp at hn
  ·simp at hi)
theorem yZ {g:Int→List Int} {n:Nat} (hg:∀ i,∀ t∈g i,t<n):(bF (gI g (n+1)) [] (en n)).1=(en n).any fun s=>yz g s (n+1) [] [s]:=by
 rw [HF,Ck hg,List.any_eq_true]
 constructor
 ·rintro ⟨i,hi,hr⟩
  exact ⟨i,by simp only [en,List.mem_map,H5];exact ⟨i,hi,rfl⟩,(uB (by omega) hg).2 hr⟩
 ·rintro ⟨s,hs,hr⟩
  simp only [en,List.mem_map,H5] at hs
  obtain ⟨i,hi,rfl⟩:=hs
  exact ⟨i,hi,(uB (by omega) hg).1 hr⟩
structure Nd where
 op:Int
 w:Int
 a:Int
 b:Int
 hi:Int
 lo:Int
structure mW where
 kind:Int
 a:Int
 b:Int
 e:List Nd
 «to» :Int
structure Pt where
 vh:Int
 vl:Int
 mh:Int
 ml:Int
structure Br where
 pats:List Pt
 «to» :Int
structure j8 where
 takes:List Int
 keys:List (List Nd)
 brs:List Br
 «to» :Int
structure sM where
 params:List Int
 body:List mW
structure Rn where
 act:Int
 args:List (Int×Int)
structure fJ where
 keys:List (List Nd)
 kinds:List Int
 acts:List Int
 run:Rn
structure Lp where
 heads:List (List Int)
 metas:List Int
 steps:List j8
 acts:List sM
 tabs:List fJ
 control:List mW
 emit:List Int
 nh:List ByteArray
 nf:List (List ByteArray)
 nm:List ByteArray
 na:List ByteArray
 nt:List ByteArray
abbrev aO (A1 A2 A3 A4 A5 A6 A7 A8 A9 A10 A11 A12:Option Addr) (p:Lp) (c1 c2 c3 c4 c5 c6 c7 c8 c9 c10 c11 c12:Nat):Array Value:=#[.slice A1 p.heads.length c1,.slice A2 p.metas.length c2,.slice A3 p.steps.length c3,.slice A4 p.acts.length c4,.slice A5 p.tabs.length c5,.slice A6 p.control.length c6,.slice A7 p.emit.length c7,.slice A8 p.nh.length c8,.slice A9 p.nf.length c9,.slice A10 p.nm.length c10,.slice A11 p.na.length c11,.slice A12 p.nt.length c12]
def eC {α:Type} (l:List α) (i:Int):Option α:=if 0≤i then l[i.toNat]? else none
def dC (n:Nat) (i:Int):Bool:=decide (0≤i)&&decide (i<n)
theorem DJ {α:Type} (l:List α) (i:Int):(eC l i).isSome=dC l.length i:=by
 unfold eC dC
 by_cases h:0≤i
 ·obtain ⟨k,rfl⟩:=HH h
  simp only [if_pos h,HQ,h,decide_true,Hx]
  by_cases hk:k<l.length
  ·rw [HA hk];simp [hk]
  ·rw [List.getElem?_eq_none (by omega)];simp [hk]
 ·simp [h]
def pS (l:List Int) (i:Int):Int:=(eC l i).getD 0
def bJ (w hi lo:Int):Bool:=jM w (0,hi,lo)
def eD (p:Lp) (act op a b:Int):Int:=
 if op=2 then pS ((eC p.heads a).getD []) b
 else if op=3 then pS p.metas a
 else if op=4 then pS (((eC p.acts act).map sM.params).getD []) a
 else if op=5 then (if a=0 then 9 else 0)
 else if op=6 then (if dC p.heads.length a=true then 1 else 0) else 0
def qg (p:Lp) (act:Int) (n:Nd):Int:=if n.op=1 then (if n.a=0∧bJ n.w n.hi n.lo=true then n.w else 0) else eD p act n.op n.a n.b
def vI (p:Lp) (act:Int) (n:Nd):Int:=
 if n.op=1 then (if n.a=0∧n.b=0∧aj n.w=true∧bJ n.w n.hi n.lo=true then n.w else 0)
 else if ¬(n.hi=0∧n.lo=0)∨(n.op≠2∧n.b≠0) then 0 else eD p act n.op n.a n.b
def cj (op:Int):Bool:=decide (op=7) ||decide (op=8) ||decide (op=9) ||decide (op=13) ||decide (op=14)
def vJ (n:Nd) (w:Int):Int:=if n.op=7∨n.op=8 then w else if n.op=13∨n.op=14 then (if 0≤n.a∧n.a≤127 then w else 0) else (if n.b<0∨n.a<n.b∨w≤n.a then 0 else n.a-n.b+1)
def oS (n:Nd) (w:Int):Int:=if n.op=7∨n.op=8 then (if n.a=0∧n.b=0 then w else 0) else if n.op=13∨n.op=14 then (if n.b=0∧0≤n.a∧n.a≤127 then w else 0) else (if 0≤n.b∧n.b≤n.a∧n.a<w then n.a-n.b+1 else 0)
def ER (op v w:Int):Int:=if op=10 then v+w else if 20<op∨v≠w then 0 else if 18≤op then 1 else w
def DK (n:Nd) (v w:Int):Int:=if n.a≠0∨n.b≠0 then 0 else if n.op=10 then v+w else if v≠w then 0 else if n.op=18∨n.op=19∨n.op=20 then 1 else if 11≤n.op∧n.op≤17 then v else 0
def fN (op:Int):Bool:=decide (op=2) ||decide (op=9)
def sO (op:Int):Bool:=fN op ||decide (op=3) ||decide (op=4) ||decide (op=6) ||decide (op=13) ||decide (op=14)
def fh (n:Nd):Bool:=(decide (n.op=1) ||(decide (n.hi=0)&&decide (n.lo=0)))&&(sO n.op ||decide (n.a=0))&&(fN n.op ||decide (n.b=0))
def cT (p:Lp) (act:Int) (st:List Int) (n:Nd):Option (Int×List Int):=
 if n.op≤6 then some (qg p act n,st) else match st with
 | []=>none
 |w::st=>if cj n.op=true then some (vJ n w,st) else match st with
  | []=>none
  |v::st=>some (ER n.op v w,st)
def cU (p:Lp) (act:Int) (st:List Int) (n:Nd):Option (List Int):=
 match cT p act st n with
 |none=>none
 |some (w,st)=>if w=n.w∧aj w=true∧fh n=true then some (w::st) else none
def du (p:Lp) (act:Int) (st:List Int) (n:Nd):Option (Int×List Int):=
 if 1≤n.op∧n.op≤6 then some (vI p act n,st) else if ¬(n.hi=0∧n.lo=0) then none else match st with
 | []=>none
 |w::st=>if cj n.op=true then some (oS n w,st) else match st with
  | []=>none
  |v::st=>some (DK n v w,st)
def dG (p:Lp) (act:Int) (st:List Int) (n:Nd):Option (List Int):=
 match du p act st n with
 |none=>none
 |some (w,st)=>if w=n.w∧aj w=true then some (w::st) else none
def bD (f:List Int→Nd→Option (List Int)):List Int→List Nd→Option (List Int)
 |st,[]=>some st
 |st,n::c=>match f st n with
  |none=>none
  |some st'=>bD f st' c
def qh:Option (List Int)→Option Int
 |some [w]=>some w
 |_=>none
def B6 (f:List Int→Nd→Option (List Int)) (c:List Nd):Option Int:=if 65536<c.length then none else qh (bD f [] c)
def eO (p:Lp) (act:Int) (c:List Nd):Option Int:=B6 (cU p act) c
def iJ (p:Lp) (act:Int) (c:List Nd):Option Int:=B6 (dG p act) c
theorem iK {w w' nw:Int} {st:List Int} {A:Prop} [Decidable A] (h:(w=nw∧aj nw=true∧A)↔(w'=nw∧aj nw=true)):(if w=nw∧aj w=true∧A then some (w::st) else none)=(if w'=nw∧aj w'=true then some (w'::st) else none):=by
 by_cases h1:w=nw∧aj nw=true∧A
 ·obtain ⟨a,b⟩:=h.1 h1
  obtain ⟨c,d,e⟩:=h1
  subst c
  rw [if_pos ⟨rfl,d,e⟩,if_pos ⟨a,by rw [a];exact b⟩,a]
 ·rw [if_neg (fun g=>h1 ⟨g.1,by rw [←g.1];exact g.2⟩),if_neg (fun g=>h1 (h.2 ⟨g.1,by rw [←g.1];exact g.2⟩))]
theorem za {w nw:Int} {st:List Int} {A:Prop} [Decidable A] (h:¬(w=nw∧aj nw=true∧A)):(if w=nw∧aj w=true∧A then some (w::st) else none)=none:=if_neg fun g=>h ⟨g.1,by rw [←g.1];exact g.2⟩
theorem vK {w nw:Int} {st:List Int} (h:¬(w=nw∧aj nw=true)):(if w=nw∧aj w=true then some (w::st) else none)=none:=if_neg fun g=>h ⟨g.1,by rw [←g.1];exact g.2⟩
theorem aC (w:Int):aj w=true↔1≤w∧w≤128:=by simp [aj]
theorem zb (p:Lp) (act:Int) (st:List Int) (n:Nd) (h:0≤n.op):cU p act st n=dG p act st n:=by
 obtain ⟨op,nw,a,b,hi,lo⟩:=n
 simp only at h
 unfold cU dG
 by_cases h6:op≤6
 ·by_cases h1:1≤op
  ·simp only [cT,du,if_pos h6,if_pos (And.intro h1 h6)]
   refine iK ?_
   rcases (by omega:op=1∨op=2∨op=3∨op=4∨op=5∨op=6) with rfl|rfl|rfl|rfl|rfl|rfl<;>
    simp only [qg,vI,fh,sO,fN,aC,Hy,HS,decide_eq_true_eq,reduceCtorEq,Int.reduceEq,Int.reduceNe,if_true,if_false,or_false,or_true,false_or,true_or,true_and,and_true,false_and,ne_eq,not_true_eq_false,not_false_eq_true]
   ·generalize bJ nw hi lo=F
    cases F<;>by_cases k3:b=0<;>by_cases k4:a=0<;>by_cases k5:1≤nw∧nw≤128<;>simp [*]<;>omega
   case inr.inr.inr.inr.inl=>simp only [eD,Int.reduceEq,if_true,if_false];by_cases k1:hi=0<;>by_cases k2:lo=0<;>by_cases k3:b=0<;>by_cases k4:a=0<;>simp [*]<;>omega
   all_goals (generalize eD p act _ a b=G;by_cases k1:hi=0<;>by_cases k2:lo=0<;>by_cases k3:b=0<;>by_cases k4:a=0<;>simp [*]<;>omega)
  ·have:op=0:=by omega
   subst this
   have hg:qg p act ⟨0,nw,a,b,hi,lo⟩=0:=by simp [qg,eD]
   simp only [cT,if_pos h6,hg]
   rw [za (fun g=>by have:=(aC _).1 g.2.1;omega)]
   simp only [du,if_neg (show ¬((1:Int)≤0∧(0:Int)≤6) by omega)]
   split
   ·rfl
   ·rename_i x e
    split at e
    ·cases e
    ·match st,e with
     | [],e=>cases e
     | [w],e=>simp [cj] at e
     |w::v::st,e=>
      simp only [cj,Int.reduceEq,decide_false,Bool.or_self,H2,if_false,Option.some.injEq,Prod.mk.injEq] at e
      obtain ⟨rfl,rfl⟩:=e
      rw [vK (fun g=> ?_)]
      have:=(aC _).1 g.2
      have h2:=g.1
      simp only [DK] at h2
      split at h2
      ·omega
      ·split at h2
       ·omega
       ·split at h2
        ·omega
        ·split at h2
         ·omega
         ·split at h2<;>omega
 ·simp only [cT,du,if_neg h6,if_neg (show ¬(1≤op∧op≤6) by omega)]
  by_cases hv:hi=0∧lo=0
  ·rw [if_neg (not_not_intro hv)]
   obtain ⟨rfl,rfl⟩:=hv
   match st with
   | []=>rfl
   | [w]=>
    simp only
    by_cases ho:cj op=true
    ·simp only [if_pos ho]
     refine iK ?_
     simp only [cj,HS,decide_eq_true_eq] at ho
     rcases (by omega:op=7∨op=8∨op=9∨op=13∨op=14) with rfl|rfl|rfl|rfl|rfl<;>
      simp only [vJ,oS,fh,sO,fN,aC,Hy,HS,decide_eq_true_eq,reduceCtorEq,Int.reduceEq,Int.reduceNe,if_true,if_false,or_false,or_true,false_or,true_or,true_and,and_true,false_and,ne_eq,not_true_eq_false,not_false_eq_true]<;>
      (repeat' split)<;>omega
    ·simp only [if_neg ho]
   |w::v::st=>
    simp only
    by_cases ho:cj op=true
    ·simp only [if_pos ho]
     refine iK ?_
     simp only [cj,HS,decide_eq_true_eq] at ho
     rcases (by omega:op=7∨op=8∨op=9∨op=13∨op=14) with rfl|rfl|rfl|rfl|rfl<;>
      simp only [vJ,oS,fh,sO,fN,aC,Hy,HS,decide_eq_true_eq,reduceCtorEq,Int.reduceEq,Int.reduceNe,if_true,if_false,or_false,or_true,false_or,true_or,true_and,and_true,false_and,ne_eq,not_true_eq_false,not_false_eq_true]<;>
      (repeat' split)<;>omega
    ·simp only [if_neg ho]
     refine iK ?_
     simp only [cj,HS,decide_eq_true_eq] at ho
     have e1:fh ⟨op,nw,a,b,0,0⟩=(decide (a=0)&&decide (b=0)):=by
      have k1:sO op=false:=by simp [sO,fN];omega
      have k2:fN op=false:=by simp [fN];omega
      simp [fh,k1,k2]
     rw [e1]
     simp only [ER,DK,aC,Hy,decide_eq_true_eq]
     (repeat' split)<;>omega
  ·rw [if_pos hv]
   have e1:fh ⟨op,nw,a,b,hi,lo⟩=false:=by
    have k1:decide (op=1)=false:=by simp;omega
    have k2:(decide (hi=0)&&decide (lo=0))=false:=by
     rw [Bool.eq_false_iff];intro g;simp at g;exact hv g
    simp [fh,k1,k2]
   split
   ·rfl
   ·rw [e1];simp
def ar (f:Nat→Bool):Nat→Bool
 |0=>true
 |k+1=>ar f k&&f k
theorem aY (f:Nat→Bool) (n:Nat):ar f n=true↔∀ i,i<n→f i=true:=by
 induction n with
 |zero=>simp [ar]
 |succ n ih=>
  simp only [ar,Hy,ih]
  constructor
  ·rintro ⟨h,h1⟩ i hi
   by_cases e:i=n
   ·subst e;exact h1
   ·exact h i (by omega)
  ·intro h;exact ⟨fun i hi=>h i (by omega),h n (by omega)⟩
theorem ba {f:Nat→Bool} {k n:Nat} (hk:k<n) (h:f k=false):ar f n=false:=by
 rw [Bool.eq_false_iff];intro g
 have:=(aY f n).1 g k hk
 rw [h] at this;cases this
theorem eE {f g:Nat→Bool} {n:Nat} (h:∀ i,i<n→f i=g i):ar f n=ar g n:=by
 rw [HF,aY,aY]
 exact ⟨fun a i hi=>by rw [←h i hi];exact a i hi,fun a i hi=>by rw [h i hi];exact a i hi⟩
def aZ {α:Type} (f:α→Bool) (l:List α) (i:Nat):Bool:=match l[i]? with
 |some x=>f x
 |none=>false
theorem am {α:Type} (f:α→Bool) {l:List α} {i:Nat} (h:i<l.length):aZ f l i=f l[i]:=by simp [aZ,h]
theorem fi {α:Type} (f:α→Bool) (l:List α):l.all f=ar (aZ f l) l.length:=by
 rw [HF,aY,HT]
 constructor
 ·intro h i hi;rw [am f hi];exact h _ (HE hi)
 ·intro h x hx
  obtain ⟨i,hi,rfl⟩:=H0 hx
  have:=h i hi
  rwa [am f hi] at this
def dr {α β:Type} (f:α→β→Bool) (xs:List α) (ys:List β):Bool:=decide (xs.length=ys.length)&&ar (fun i=>aZ (fun x=>aZ (f x) ys i) xs i) xs.length
def dH (p:Lp) (listed:List Int) (r:Rn):Bool:=match eC p.acts r.act with
 |none=>false
 |some a=>decide (r.act∈listed)&&dr (fun (x:Int×Int) (w:Int)=>bJ w x.1 x.2) r.args a.params
def fO (p:Lp) (x:mW):Int×Bool:=
 if x.kind=1 then (pS ((eC p.heads x.a).getD []) x.b,dC ((eC p.heads x.a).getD []).length x.b)
 else if x.kind=2 then (pS p.metas x.a,dC p.metas.length x.a&&decide (x.b=0))
 else if x.kind=3 then (0,dC p.tabs.length x.a&&decide (x.b=0))
 else if x.kind=6 then (0,dC p.heads.length x.a&&(decide (x.b=0) ||decide (x.b=1)))
 else if x.kind=7 then (1,decide (x.a=0)&&decide (x.b=0))
 else if x.kind=5 then (9,decide (x.a=0)&&decide (x.b=0))
 else (0,(decide (x.kind=4) ||decide (x.kind=8))&&decide (x.a=0)&&decide (x.b=0))
def oT (x:mW) (i many:Nat):Bool:=if x.kind=7∨x.kind=8 then decide ((i:Int)<x.to)&&decide (x.to≤many) else decide (x.to=0)
def DL (p:Lp) (act:Int) (w:Int) (e:List Nd):Bool:=if w=0 then e.isEmpty else if 0<w then decide (eO p act e=some w) else true
def mT (p:Lp) (act:Int) (w:Int) (e:List Nd):Bool:=if w=0 then e.isEmpty else decide (iJ p act e=some w)
def ep (cd:Int→List Nd→Bool) (p:Lp) (act:Int) (many i:Nat) (x:mW):Bool:=(fO p x).2&& !(decide (0≤act)&&decide (x.kind=3))&&oT x i many&&cd (fO p x).1 x.e
def kW (cd:Int→List Nd→Bool) (p:Lp) (act:Int) (l:List mW):Bool:=decide (l.length≤65536)&&ar (fun i=>aZ (ep cd p act l.length i) l i) l.length
def eQ (p:Lp) (act:Int) (l:List mW):Bool:=kW (DL p act) p act l
def eR (p:Lp) (act:Int) (l:List mW):Bool:=kW (mT p act) p act l
def mX (l:List Int) (below:Nat):Bool:=ar (fun i=>aZ (fun x=>dC below x&& !decide (bo l x<i)) l i) l.length
def mY (l:List Int) (below:Nat):Bool:=ar (fun i=>aZ (fun x=>dC below x&& !decide (x∈l.take i)) l i) l.length
def dR (x:Pt) (w:Int):Bool:=bJ w x.vh x.vl&&bJ w x.mh x.ml&&(decide (aJ x.vh x.mh=x.vh)&&decide (aJ x.vl x.ml=x.vl))
def gd (p:Lp) («to» :Int):Bool:=decide (-2≤ «to»)&&decide («to» <p.steps.length)
def f6 (f:List Nd→Option Int):List (List Nd)→Option (List Int)
 | []=>some []
 |c::l=>match f c with
  |none=>none
  |some w=>(f6 f l).map (w:: ·)
def ej (p:Lp) (s:j8):Bool:=match f6 (eO p (-1)) s.keys with
 |none=>false
 |some ws=>decide (s.keys.length≤4)&&decide (s.takes.length≤8)&&s.takes.all (dC p.heads.length)&&gd p s.to&&(if s.keys.length=0 then decide (s.brs.length=0) else
  decide (s.to=0)&&decide (1≤s.brs.length)&&decide (s.brs.length≤16)&&s.brs.all fun b=>gd p b.to&&dr dR b.pats ws)
def B7 (p:Lp) (n k:Nat) (w:Int) (b:Br):Bool:=gd p b.to&&decide (b.pats.length=n)&&aZ (fun x=>dR x w) b.pats k
def kX (p:Lp) (s:j8) (k:Nat):Bool:=aZ (fun c=>match iJ p (-1) c with
 |none=>false
 |some w=>ar (aZ (B7 p s.keys.length k w) s.brs) s.brs.length) s.keys k
def el (p:Lp) (s:j8):Bool:=decide (s.takes.length≤8)&&decide (s.keys.length≤4)&&gd p s.to&&ar (aZ (dC p.heads.length) s.takes) s.takes.length&&(if s.keys.length=0 then decide (s.brs.length=0) else
  decide (s.to=0)&&decide (1≤s.brs.length)&&decide (s.brs.length≤16)&&ar (kX p s) s.keys.length)
def gk (l:List Int):Nat:=(l.filter fun x=>decide (x=2)).length
def dS (k:Int):Bool:=decide (1≤k)&&decide (k≤3)
def ij (p:Lp) (t:fJ):Bool:=(f6 (eO p (-1)) t.keys).isSome&&decide (t.keys.length≤4)&& !decide (t.keys.length=0)&&decide (t.kinds.length=t.keys.length)&&ar (aZ dS t.kinds) t.kinds.length&&decide (gk t.kinds≤1)&&
 decide (1≤t.acts.length)&&decide (t.acts.length≤16)&&mX t.acts p.acts.length&&dH p t.acts t.run
def mZ (p:Lp) (t:fJ):Bool:=decide (1≤t.keys.length)&&decide (t.keys.length≤4)&&decide (t.kinds.length=t.keys.length)&&decide (1≤t.acts.length)&&decide (t.acts.length≤16)&&mY t.acts p.acts.length&&
 ar (fun i=>aZ (fun c=>(iJ p (-1) c).isSome) t.keys i&&aZ dS t.kinds i) t.keys.length&&decide (gk t.kinds<2)&&dH p t.acts t.run
def iL:Int→List Int→Int
 |n,[]=>n
 |n,x::l=>iL (wrap64 (n+x)) l
def dU (l:List Int) (most:Nat):Bool:=decide (l.length≤most)&&l.all aj
def bQ (l:List Int):Bool:=decide (1≤l.length)&&dU l 16&&decide ((iL 0 l).tmod 8=0)&&decide (iL 0 l≤256)
def gl (p:Lp):Bool:=dr (fun (l:List Int) (n:List ByteArray)=>decide (l.length=n.length)) p.heads p.nf&&decide (p.nh.length=p.heads.length)&&decide (p.nm.length=p.metas.length)&&decide (p.na.length=p.acts.length)&&decide (p.nt.length=p.tabs.length)
def iM (s:j8):List Int:=(if s.keys.length=0 then [s.to] else [])++s.brs.map Br.to
def bf (l:List j8) (i:Int):List Int:=((eC l i).map iM).getD []
def sP (l:List j8):Bool:=(bF (gI (bf l) (l.length+1)) [] (en l.length)).1
def m6 (l:List j8) (s:Int):Bool:=yz (bf l) s (l.length+1) [] [s]
def vL (p:Lp) (i:Nat) (a:sM):Bool:=dU a.params 8&&eQ p i a.body
def zi (p:Lp) (i:Nat) (a:sM):Bool:=dU a.params 8&&eR p i a.body
def bR (p:Lp):Bool:=decide (p.heads.length≤8)&&decide (1≤p.steps.length)&&decide (p.steps.length≤16)&&decide (p.acts.length≤16)&&decide (p.tabs.length≤8)&&
 p.heads.all bQ&&dU p.metas 16&&gl p&&mX p.emit p.heads.length&&ar (fun i=>aZ (vL p i) p.acts i) p.acts.length&&p.steps.all (ej p)&& !sP p.steps&&p.tabs.all (ij p)&&eQ p (-1) p.control
def ik (p:Lp):Bool:=decide (p.heads.length≤8)&&decide (p.nh.length=p.heads.length)&&decide (p.nf.length=p.heads.length)&&ar (fun i=>aZ bQ p.heads i&&aZ (fun l=>aZ (fun n=>decide (n.length=l.length)) p.nf i) p.heads i) p.heads.length
def g8 (p:Lp):Bool:=ik p&&dU p.metas 16&&decide (p.nm.length=p.metas.length)&&decide (p.na.length=p.acts.length)&&decide (p.nt.length=p.tabs.length)&&
 decide (1≤p.steps.length)&&decide (p.steps.length≤16)&&decide (p.acts.length≤16)&&decide (p.tabs.length≤8)&&mY p.emit p.heads.length&&eR p (-1) p.control&&
 ar (aZ (el p) p.steps) p.steps.length&&ar (fun i=> !m6 p.steps i) p.steps.length&&ar (fun i=>aZ (zi p i) p.acts i) p.acts.length&&ar (aZ (mZ p) p.tabs) p.tabs.length
def sQ (c:List Nd):Prop:=∀ n∈c,0≤n.op
structure DM (p:Lp):Prop where
 ctl:∀ x∈p.control,sQ x.e
 act:∀ a∈p.acts,∀ x∈a.body,sQ x.e
 stp:∀ s∈p.steps,∀ c∈s.keys,sQ c
 tab:∀ t∈p.tabs,∀ c∈t.keys,sQ c
theorem kY (p:Lp) (act:Int):∀ (c:List Nd) (st:List Int),sQ c→bD (cU p act) st c=bD (dG p act) st c
 | [],_,_=>rfl
 |n::c,st,h=>by
  simp only [bD,zb p act st n (h n (by simp))]
  cases dG p act st n with
  |none=>rfl
  |some st'=>exact kY p act c st' fun m hm=>h m (by simp [hm])
theorem oU (p:Lp) (act:Int) (c:List Nd) (h:sQ c):eO p act c=iJ p act c:=by unfold eO iJ B6;rw [kY p act c [] h]
theorem zj {p:Lp} {act:Int} {st st':List Int} {n:Nd} (h:cU p act st n=some st') (hs:∀ x∈st,aj x=true):∀ x∈st',aj x=true:=by
 unfold cU at h
 cases hd:cT p act st n with
 |none=>rw [hd] at h;cases h
 |some r=>
  obtain ⟨w,s1⟩:=r
  rw [hd] at h
  simp only at h
  have h1:∀ x∈s1,x∈st:=by
   unfold cT at hd
   split at hd
   ·cases hd;exact fun x h=>h
   ·split at hd
    ·cases hd
    ·split at hd
     ·cases hd;exact fun x h=>by simp [h]
     ·split at hd
      ·cases hd
      ·cases hd;exact fun x h=>by simp [h]
  split at h
  ·rename_i hc
   injection h with h
   subst h
   intro x hx
   rcases HU.1 hx with rfl|hx
   ·exact hc.2.1
   ·exact hs x (h1 x hx)
  ·cases h
theorem kZ {p:Lp} {act:Int}:∀ (c:List Nd) (st st':List Int),bD (cU p act) st c=some st'→(∀ x∈st,aj x=true)→∀ x∈st',aj x=true
 | [],st,st',h,hs=>by simp only [bD] at h;injection h with h;subst h;exact hs
 |n::c,st,st',h,hs=>by
  simp only [bD] at h
  cases hn:cU p act st n with
  |none=>rw [hn] at h;cases h
  |some s1=>rw [hn] at h;exact kZ c s1 st' h (zj hn hs)
theorem uC {l:List Int} (h:l.all aj=true) (i:Int):0≤pS l i:=by
 unfold pS eC
 by_cases hi:0≤i
 ·rw [if_pos hi]
  cases hx:l[i.toNat]? with
  |none=>simp
  |some x=>
   have:=HT.1 h x (List.mem_of_getElem? hx)
   rw [aC] at this
   simp;omega
 ·rw [if_neg hi];simp
theorem Cl {p:Lp} (h1:∀ l∈p.heads,l.all aj=true) (h2:p.metas.all aj=true) (x:mW):0≤(fO p x).1:=by
 unfold fO
 split
 ·refine uC ?_ _
  unfold eC
  split
  ·cases hx:p.heads[x.a.toNat]? with
   |none=>simp
   |some l=>exact h1 l (List.mem_of_getElem? hx)
  ·simp
 ·split
  ·exact uC h2 _
  ·(repeat' split)<;>simp
theorem uD {p:Lp} (h1:∀ l∈p.heads,l.all aj=true) (h2:p.metas.all aj=true) (act:Int) (l:List mW) (h:∀ x∈l,sQ x.e):eQ p act l=eR p act l:=by
 unfold eQ eR kW
 congr 1
 refine eE fun i hi=> ?_
 rw [am _ hi,am _ hi]
 unfold ep
 congr 1
 have hw:=Cl h1 h2 l[i]
 unfold DL mT
 rw [oU p act _ (h _ (HE hi))]
 split
 ·rfl
 ·rw [if_pos (by omega)]
theorem zk (l:List Int) (n:Nat):mX l n=mY l n:=by
 unfold mX mY
 refine eE fun i hi=> ?_
 rw [am _ hi,am _ hi]
 congr 2
 rw [HF,decide_eq_true_eq,decide_eq_true_eq]
 have h1:=sI hi
 have h2:=yF hi
 constructor
 ·intro h
  by_cases hm:l[i]∈l.take i
  ·exact hm
  ·have:=h1.2 hm;omega
 ·intro h
  have:¬bo l l[i]=(i:Int):=fun e=>h1.1 e h
  omega
theorem lg {f:List Nd→Option Int}:∀ {l:List (List Nd)} {ws:List Int},f6 f l=some ws→ws.length=l.length∧∀ i (h:i<l.length) (h':i<ws.length),f l[i]=some ws[i]
 | [],ws,h=>by simp only [f6] at h;injection h with h;subst h;simp
 |c::l,ws,h=>by
  simp only [f6] at h
  cases hc:f c with
  |none=>rw [hc] at h;cases h
  |some w=>
   rw [hc] at h
   simp only at h
   cases hr:f6 f l with
   |none=>rw [hr] at h;cases h
   |some vs=>
    rw [hr] at h
    simp only [Option.map_some,Option.some.injEq] at h
    subst h
    obtain ⟨h1,h2⟩:=lg hr
    refine ⟨by simp [h1],fun i hi hi'=> ?_⟩
    cases i with
    |zero=>exact hc
    |succ i=>exact h2 i (by simpa using hi) (by simpa using hi')
theorem lj {f:List Nd→Option Int}:∀ {l:List (List Nd)},f6 f l=none→∃ i,∃ h:i<l.length,f l[i]=none
 | [],h=>by simp [f6] at h
 |c::l,h=>by
  simp only [f6] at h
  cases hc:f c with
  |none=>exact ⟨0,by simp,hc⟩
  |some w=>
   rw [hc] at h
   simp only at h
   cases hr:f6 f l with
   |none=>obtain ⟨i,hi,h2⟩:=lj hr;exact ⟨i+1,by simpa using hi,by simpa using h2⟩
   |some vs=>rw [hr] at h;cases h
theorem oV {α β:Type} (f:α→β→Bool) (xs:List α) (ys:List β):dr f xs ys=true↔xs.length=ys.length∧∀ i (h:i<xs.length) (h':i<ys.length),f xs[i] ys[i]=true:=by
 unfold dr
 rw [Hy,decide_eq_true_eq,aY]
 constructor
 ·rintro ⟨h1,h2⟩
  refine ⟨h1,fun i h h'=> ?_⟩
  have:=h2 i h
  rwa [am _ h,am _ h'] at this
 ·rintro ⟨h1,h2⟩
  refine ⟨h1,fun i h=> ?_⟩
  rw [am _ h,am _ (by omega)]
  exact h2 i h (by omega)
theorem Cm (p:Lp) (s:j8) (h:∀ c∈s.keys,sQ c):ej p s=el p s:=by
 have hw:∀ i (hi:i<s.keys.length),eO p (-1) s.keys[i]=iJ p (-1) s.keys[i]:=fun i hi=>oU p (-1) _ (h _ (HE hi))
 unfold ej el
 cases hk:f6 (eO p (-1)) s.keys with
 |none=>
  obtain ⟨i,hi,hn⟩:=lj hk
  have h0:¬s.keys.length=0:=by omega
  have:ar (kX p s) s.keys.length=false:=ba hi (by unfold kX;rw [am _ hi,←hw i hi,hn])
  simp only [if_neg h0,this,Bool.and_false]
 |some ws=>
  obtain ⟨hl,hws⟩:=lg hk
  simp only
  by_cases h0:s.keys.length=0
  ·simp only [if_pos h0,fi]
   cases decide (s.keys.length≤4)<;>cases decide (s.takes.length≤8)<;>cases gd p s.to<;>simp
  ·simp only [if_neg h0,fi]
   have hm:ar (aZ (fun b=>gd p b.to&&dr dR b.pats ws) s.brs) s.brs.length=true↔∀ j,∀ h:j<s.brs.length,gd p s.brs[j].to=true∧dr dR s.brs[j].pats ws=true:=by
    rw [aY]
    refine ⟨fun g j hj=> ?_,fun g j hj=> ?_⟩
    ·have:=g j hj
     rwa [am _ hj,Hy] at this
    ·rw [am _ hj,Hy];exact g j hj
   have hr:ar (kX p s) s.keys.length=true↔∀ k,∀ _:k<s.keys.length,∀ hk':k<ws.length,∀ j,∀ h:j<s.brs.length,B7 p s.keys.length k ws[k] s.brs[j]=true:=by
    rw [aY]
    refine ⟨fun g k hk1 hk2 j hj=> ?_,fun g k hk1=> ?_⟩
    ·have:=g k hk1
     unfold kX at this
     rw [am _ hk1,←hw k hk1,hws k hk1 hk2] at this
     simp only [aY] at this
     have:=this j hj
     rwa [am _ hj] at this
    ·unfold kX
     rw [am _ hk1,←hw k hk1,hws k hk1 (by omega)]
     simp only [aY]
     intro j hj
     rw [am _ hj]
     exact g k hk1 (by omega) j hj
   have hb:1≤s.brs.length→(ar (aZ (fun b=>gd p b.to&&dr dR b.pats ws) s.brs) s.brs.length=ar (kX p s) s.keys.length):=fun _=>by
    rw [HF,hm,hr]
    constructor
    ·intro g k hk1 hk2 j hj
     obtain ⟨g1,g2⟩:=g j hj
     rw [oV] at g2
     unfold B7
     have hkp:k<s.brs[j].pats.length:=by omega
     rw [g1,am _ hkp,g2.2 k hkp hk2]
     simp;omega
    ·intro g j hj
     have g0:=g 0 (by omega) (by omega) j hj
     unfold B7 at g0
     simp only [Hy,decide_eq_true_eq] at g0
     refine ⟨g0.1.1,?_⟩
     rw [oV]
     refine ⟨by omega,fun i hi hi'=> ?_⟩
     have gi:=g i (by omega) hi' j hj
     unfold B7 at gi
     rw [am _ hi] at gi
     simp only [Hy] at gi
     exact gi.2
   by_cases hb1:1≤s.brs.length
   ·rw [hb hb1]
    cases decide (s.keys.length≤4)<;>cases decide (s.takes.length≤8)<;>cases gd p s.to<;>simp
   ·simp only [decide_eq_false hb1,Hu,Bool.and_false]
theorem DN (p:Lp) (t:fJ) (h:∀ c∈t.keys,sQ c):ij p t=mZ p t:=by
 have hw:∀ i (hi:i<t.keys.length),eO p (-1) t.keys[i]=iJ p (-1) t.keys[i]:=fun i hi=>oU p (-1) _ (h _ (HE hi))
 rw [HF]
 unfold ij mZ
 rw [zk]
 have hk:(f6 (eO p (-1)) t.keys).isSome=true↔∀ i,∀ hi:i<t.keys.length,(iJ p (-1) t.keys[i]).isSome=true:=by
  cases hr:f6 (eO p (-1)) t.keys with
  |none=>
   obtain ⟨i,hi,hn⟩:=lj hr
   simp only [Option.isSome_none,H2,false_iff]
   intro g
   have:=g i hi
   rw [←hw i hi,hn] at this;cases this
  |some ws=>
   obtain ⟨hl,hws⟩:=lg hr
   simp only [Option.isSome_some,true_iff]
   intro i hi
   rw [←hw i hi,hws i hi (by omega)];rfl
 simp only [Hy,hk,aY,decide_eq_true_eq,Bool.not_eq_true',decide_eq_false_iff_not]
 constructor
 ·rintro ⟨⟨⟨⟨⟨⟨⟨⟨⟨a1,a2⟩,a3⟩,a4⟩,a5⟩,a6⟩,a7⟩,a8⟩,a9⟩,a10⟩
  exact ⟨⟨⟨⟨⟨⟨⟨⟨by omega,a2⟩,a4⟩,a7⟩,a8⟩,a9⟩,fun i hi=>⟨by rw [am _ hi];exact a1 i hi,a5 i (by omega)⟩⟩,by omega⟩,a10⟩
 ·rintro ⟨⟨⟨⟨⟨⟨⟨⟨a1,a2⟩,a3⟩,a4⟩,a5⟩,a6⟩,a7⟩,a8⟩,a9⟩
  refine ⟨⟨⟨⟨⟨⟨⟨⟨⟨fun i hi=> ?_,a2⟩,by omega⟩,a3⟩,fun i hi=>(a7 i (by omega)).2⟩,by omega⟩,a4⟩,a5⟩,a6⟩,a9⟩
  have:=(a7 i hi).1
  rwa [am _ hi] at this
theorem oW {α:Type} {l:List α} {i:Int} {x:α} (h:eC l i=some x):x∈l:=by
 unfold eC at h
 split at h
 ·exact List.mem_of_getElem? h
 ·cases h
theorem qj (p:Lp) (h:p.steps.all (ej p)=true):∀ i,∀ t∈bf p.steps i,t<p.steps.length:=by
 intro i t ht
 unfold bf at ht
 cases hn:eC p.steps i with
 |none=>rw [hn] at ht;simp at ht
 |some s=>
  rw [hn] at ht
  simp only [Option.map_some,If,iM] at ht
  have hs:=HT.1 h s (oW hn)
  unfold ej at hs
  cases hk:f6 (eO p (-1)) s.keys with
  |none=>rw [hk] at hs;cases hs
  |some ws=>
   rw [hk] at hs
   simp only [Hy] at hs
   obtain ⟨⟨_,h1⟩,h2⟩:=hs
   simp only [gd,Hy,decide_eq_true_eq] at h1
   rcases HZ.1 ht with ht|ht
   ·split at ht
    ·simp at ht;omega
    ·simp at ht
   ·obtain ⟨b,hb,rfl⟩:=List.mem_map.1 ht
    split at h2
    ·have:s.brs= []:=Ie (of_decide_eq_true h2)
     rw [this] at hb;simp at hb
    ·simp only [Hy] at h2
     have:=HT.1 h2.2 b hb
     simp only [Hy,gd,decide_eq_true_eq] at this
     exact this.1.2
theorem zn (p:Lp) (h:DM p):bR p=g8 p:=by
 have hN:(p.heads.all bQ&&gl p)=true↔(∀ i,∀ hi:i<p.heads.length,bQ p.heads[i]=true)∧(p.heads.length=p.nf.length∧∀ i,∀ hi:i<p.heads.length,∀ hi':i<p.nf.length,p.heads[i].length=p.nf[i].length)∧p.nh.length=p.heads.length∧p.nm.length=p.metas.length∧p.na.length=p.acts.length∧p.nt.length=p.tabs.length:=by
  unfold gl
  simp only [Hy,oV,decide_eq_true_eq,fi,aY]
  constructor
  ·rintro ⟨a,⟨⟨⟨⟨b,c⟩,d⟩,e⟩,f⟩⟩
   exact ⟨fun i hi=>by have:=a i hi;rwa [am _ hi] at this,b,c,d,e,f⟩
  ·rintro ⟨a,b,c,d,e,f⟩
   exact ⟨fun i hi=>by rw [am _ hi];exact a i hi,⟨⟨⟨⟨b,c⟩,d⟩,e⟩,f⟩⟩
 have hH:ik p=true↔p.heads.length≤8∧p.nh.length=p.heads.length∧p.nf.length=p.heads.length∧(∀ i,∀ hi:i<p.heads.length,bQ p.heads[i]=true)∧(∀ i,∀ hi:i<p.heads.length,∀ hi':i<p.nf.length,p.heads[i].length=p.nf[i].length):=by
  unfold ik
  simp only [Hy,decide_eq_true_eq,aY]
  constructor
  ·rintro ⟨⟨⟨a,b⟩,c⟩,d⟩
   refine ⟨a,b,c,fun i hi=> ?_,fun i hi hi'=> ?_⟩
   ·have:=(d i hi).1;rwa [am _ hi] at this
   ·have:=(d i hi).2;rw [am _ hi,am _ hi',decide_eq_true_eq] at this;exact this.symm
  ·rintro ⟨a,b,c,d,e⟩
   refine ⟨⟨⟨a,b⟩,c⟩,fun i hi=>⟨by rw [am _ hi];exact d i hi,?_⟩⟩
   rw [am _ hi,am _ (by omega),decide_eq_true_eq];exact (e i hi (by omega)).symm
 have hhd:(∀ i,∀ hi:i<p.heads.length,bQ p.heads[i]=true)→∀ l∈p.heads,l.all aj=true:=fun g l hl=>by
  obtain ⟨i,hi,rfl⟩:=H0 hl
  have:=g i hi
  simp only [bQ,dU,Hy] at this
  exact this.1.1.2.2
 have hmt:dU p.metas 16=true→p.metas.all aj=true:=fun g=>by simp only [dU,Hy] at g;exact g.2
 have hcore:(∀ l∈p.heads,l.all aj=true)→p.metas.all aj=true→(eQ p (-1) p.control=eR p (-1) p.control)∧(ar (fun i=>aZ (vL p i) p.acts i) p.acts.length=ar (fun i=>aZ (zi p i) p.acts i) p.acts.length):=fun g1 g2=>⟨uD g1 g2 _ _ h.ctl,eE fun i hi=>by
  rw [am _ hi,am _ hi];unfold vL zi;rw [uD g1 g2 _ _ (h.act _ (HE hi))]⟩
 have hst:p.steps.all (ej p)=ar (aZ (el p) p.steps) p.steps.length:=by
  rw [fi]
  exact eE fun i hi=>by rw [am _ hi,am _ hi,Cm p _ (h.stp _ (HE hi))]
 have htb:p.tabs.all (ij p)=ar (aZ (mZ p) p.tabs) p.tabs.length:=by
  rw [fi]
  exact eE fun i hi=>by rw [am _ hi,am _ hi,DN p _ (h.tab _ (HE hi))]
 have hcy:p.steps.all (ej p)=true→((!sP p.steps)=ar (fun i=> !m6 p.steps i) p.steps.length):=fun g=>by
  unfold sP m6
  rw [yZ (qj p g),HF,aY,Bool.not_eq_true',List.any_eq_false]
  constructor
  ·intro k i hi
   have:=k (i:Int) (by simp only [en,List.mem_map,H5];exact ⟨i,hi,rfl⟩)
   simpa using this
  ·intro k x hx
   simp only [en,List.mem_map,H5] at hx
   obtain ⟨i,hi,rfl⟩:=hx
   simpa using k i hi
 rw [HF]
 unfold bR g8
 rw [zk,←hst,←htb]
 constructor
 ·intro g
  simp only [Hy,decide_eq_true_eq] at g
  obtain ⟨⟨⟨⟨⟨⟨⟨⟨⟨⟨⟨⟨⟨a1,a2⟩,a3⟩,a4⟩,a5⟩,a6⟩,a7⟩,a8⟩,a9⟩,a10⟩,a11⟩,a12⟩,a13⟩,a14⟩:=g
  obtain ⟨b1,b2,b3,b4,b5,b6⟩:=hN.1 (by rw [a6,a8];rfl)
  obtain ⟨c1,c2⟩:=hcore (hhd b1) (hmt a7)
  simp only [Hy,decide_eq_true_eq,hH]
  rw [←c1,←c2,←hcy a11]
  exact ⟨⟨⟨⟨⟨⟨⟨⟨⟨⟨⟨⟨⟨⟨⟨a1,b3,b2.1.symm,b1,b2.2⟩,a7⟩,b4⟩,b5⟩,b6⟩,a2⟩,a3⟩,a4⟩,a5⟩,a9⟩,a14⟩,a11⟩,a12⟩,a10⟩,a13⟩
 ·intro g
  simp only [Hy,decide_eq_true_eq,hH] at g
  obtain ⟨⟨⟨⟨⟨⟨⟨⟨⟨⟨⟨⟨⟨⟨⟨a1,b3,b2,b1,b7⟩,a7⟩,b4⟩,b5⟩,b6⟩,a2⟩,a3⟩,a4⟩,a5⟩,a9⟩,a14⟩,a11⟩,a12⟩,a10⟩,a13⟩:=g
  obtain ⟨c1,c2⟩:=hcore (hhd b1) (hmt a7)
  have hn:=hN.2 ⟨b1,⟨b2.symm,b7⟩,b3,b4,b5,b6⟩
  rw [Hy] at hn
  simp only [Hy,decide_eq_true_eq]
  rw [c1,c2,hcy a11]
  exact ⟨⟨⟨⟨⟨⟨⟨⟨⟨⟨⟨⟨⟨a1,a2⟩,a3⟩,a4⟩,a5⟩,hn.1⟩,a7⟩,hn.2⟩,a9⟩,a10⟩,a11⟩,a12⟩,a13⟩,a14⟩
def GZ (n:Nd):List Value:= [.int .u8 n.op,.int .i64 n.w,.int .i64 n.a,.int .i64 n.b,.int .u64 n.hi,.int .u64 n.lo]
def zo:CR Nd:=fun _ _ cs n=>cs=GZ n∧u8 n.op∧aW n.hi∧aW n.lo
theorem bm:f7 zo:=⟨fun h _=>h,fun h _=>h⟩
def m7:CR mW:=fun w B cs x=>∃ A cap,cs= [.int .u8 x.kind,.int .i64 x.a,.int .i64 x.b,.slice A x.e.length cap,.int .i64 x.to]∧Sl 6 zo w B A x.e
theorem bz:f7 m7:=⟨fun ⟨A,cap,e,h⟩ hk=>⟨A,cap,e,h.keep bm hk⟩,fun ⟨A,cap,e,h⟩ hB=>⟨A,cap,e,h.more bm hB⟩⟩
def gT:CR Pt:=fun _ _ cs x=>cs= [.int .u64 x.vh,.int .u64 x.vl,.int .u64 x.mh,.int .u64 x.ml]∧aW x.vh∧aW x.vl∧aW x.mh∧aW x.ml
theorem ay:f7 gT:=⟨fun h _=>h,fun h _=>h⟩
def vM:CR Br:=fun w B cs x=>∃ A cap,cs= [.slice A x.pats.length cap,.int .i64 x.to]∧Sl 4 gT w B A x.pats
theorem bZ:f7 vM:=⟨fun ⟨A,cap,e,h⟩ hk=>⟨A,cap,e,h.keep ay hk⟩,fun ⟨A,cap,e,h⟩ hB=>⟨A,cap,e,h.more ay hB⟩⟩
def pT:CR (List Nd):=mS 6 zo
theorem aV:f7 pT:=ee bm
def m8:CR j8:=fun w B cs x=>∃ A1 A2 A3 c1 c2 c3,cs= [.slice A1 x.takes.length c1,.slice A2 x.keys.length c2,.slice A3 x.brs.length c3,.int .i64 x.to]∧Sl 1 bc w B A1 x.takes∧Sl 1 pT w B A2 x.keys∧Sl 2 vM w B A3 x.brs∧x.keys.length≤sm
theorem fP:f7 m8:=⟨fun ⟨A1,A2,A3,c1,c2,c3,e,h1,h2,h3,h4⟩ hk=>⟨A1,A2,A3,c1,c2,c3,e,h1.keep ah hk,h2.keep aV hk,h3.keep bZ hk,h4⟩,fun ⟨A1,A2,A3,c1,c2,c3,e,h1,h2,h3,h4⟩ hB=>⟨A1,A2,A3,c1,c2,c3,e,h1.more ah hB,h2.more aV hB,h3.more bZ hB,h4⟩⟩
def zp:CR sM:=fun w B cs x=>∃ A1 A2 c1 c2,cs= [.slice A1 x.params.length c1,.slice A2 x.body.length c2]∧Sl 1 bc w B A1 x.params∧Sl 5 m7 w B A2 x.body
theorem gJ:f7 zp:=⟨fun ⟨A1,A2,c1,c2,e,h1,h2⟩ hk=>⟨A1,A2,c1,c2,e,h1.keep ah hk,h2.keep bz hk⟩,fun ⟨A1,A2,c1,c2,e,h1,h2⟩ hB=>⟨A1,A2,c1,c2,e,h1.more ah hB,h2.more bz hB⟩⟩
def f8:CR (Int×Int):=fun _ _ cs x=>cs= [.int .u64 x.1,.int .u64 x.2]∧aW x.1∧aW x.2
theorem aq:f7 f8:=⟨fun h _=>h,fun h _=>h⟩
def B8:CR Int:=fun _ _ cs x=>cs= [.int .u8 x]
theorem cw:f7 B8:=⟨fun h _=>h,fun h _=>h⟩
def oX:CR fJ:=fun w B cs x=>∃ A1 A2 A3 A4 c1 c2 c3 c4,cs= [.slice A1 x.keys.length c1,.slice A2 x.kinds.length c2,.slice A3 x.acts.length c3,.int .i64 x.run.act,.slice A4 x.run.args.length c4]∧Sl 1 pT w B A1 x.keys∧Sl 1 B8 w B A2 x.kinds∧Sl 1 bc w B A3 x.acts∧Sl 2 f8 w B A4 x.run.args∧x.keys.length≤sm∧x.acts.length≤c3
theorem kD:f7 oX:=⟨fun ⟨A1,A2,A3,A4,c1,c2,c3,c4,e,h1,h2,h3,h4,h5⟩ hk=>⟨A1,A2,A3,A4,c1,c2,c3,c4,e,h1.keep aV hk,h2.keep cw hk,h3.keep ah hk,h4.keep aq hk,h5⟩,fun ⟨A1,A2,A3,A4,c1,c2,c3,c4,e,h1,h2,h3,h4,h5⟩ hB=>⟨A1,A2,A3,A4,c1,c2,c3,c4,e,h1.more aV hB,h2.more cw hB,h3.more ah hB,h4.more aq hB,h5⟩⟩
structure cz (w:World) (B:Nat) (A1 A2 A3 A4 A5 A6 A7 A8 A9 A10 A11 A12:Option Addr) (p:Lp):Prop where
 heads:Sl 1 (mS 1 bc) w B A1 p.heads
 metas:Sl 1 bc w B A2 p.metas
 steps:Sl 4 m8 w B A3 p.steps
 acts:Sl 2 zp w B A4 p.acts
 tabs:Sl 5 oX w B A5 p.tabs
 control:Sl 5 m7 w B A6 p.control
 emit:Sl 1 bc w B A7 p.emit
 nh:Sl 1 cJ w B A8 p.nh
 nf:Sl 1 (mS 1 cJ) w B A9 p.nf
 nm:Sl 1 cJ w B A10 p.nm
 na:Sl 1 cJ w B A11 p.na
 nt:Sl 1 cJ w B A12 p.nt
theorem cz.keep {w w':World} {B:Nat} {A1 A2 A3 A4 A5 A6 A7 A8 A9 A10 A11 A12:Option Addr} {p:Lp} (h:cz w B A1 A2 A3 A4 A5 A6 A7 A8 A9 A10 A11 A12 p) (hk:∀ a:Addr,a.block<B→w'.cell? a=w.cell? a):cz w' B A1 A2 A3 A4 A5 A6 A7 A8 A9 A10 A11 A12 p:=
 ⟨h.heads.keep (ee ah) hk,h.metas.keep ah hk,h.steps.keep fP hk,h.acts.keep gJ hk,h.tabs.keep kD hk,h.control.keep bz hk,h.emit.keep ah hk,h.nh.keep aG hk,h.nf.keep (ee aG) hk,h.nm.keep aG hk,h.na.keep aG hk,h.nt.keep aG hk⟩
theorem cz.more {w:World} {B B':Nat} {A1 A2 A3 A4 A5 A6 A7 A8 A9 A10 A11 A12:Option Addr} {p:Lp} (h:cz w B A1 A2 A3 A4 A5 A6 A7 A8 A9 A10 A11 A12 p) (hB:B≤B'):cz w B' A1 A2 A3 A4 A5 A6 A7 A8 A9 A10 A11 A12 p:=
 ⟨h.heads.more (ee ah) hB,h.metas.more ah hB,h.steps.more fP hB,h.acts.more gJ hB,h.tabs.more kD hB,h.control.more bz hB,h.emit.more ah hB,h.nh.more aG hB,h.nf.more (ee aG) hB,h.nm.more aG hB,h.na.more aG hB,h.nt.more aG hB⟩
theorem cz.below {w w':World} {B:Nat} {A1 A2 A3 A4 A5 A6 A7 A8 A9 A10 A11 A12:Option Addr} {p:Lp} (h:cz w B A1 A2 A3 A4 A5 A6 A7 A8 A9 A10 A11 A12 p) (hb:Below B w w'):cz w' B A1 A2 A3 A4 A5 A6 A7 A8 A9 A10 A11 A12 p:=h.keep fun _ hp=>hb.cell hp
theorem Sl.nth_no {α:Type} {l:List α} {i:Int} (h:¬(0≤i∧i<l.length)):eC l i=none:=by
 have:=DJ l i
 have e:dC l.length i=false:=by
  unfold dC
  by_cases h0:0≤i
  ·simp only [h0,decide_true,Hx,decide_eq_false_iff_not];omega
  ·simp [h0]
 rw [e] at this
 exact Option.isNone_iff_eq_none.1 (by rw [←Option.not_isSome,this];rfl)
theorem il {α:Type} {l:List α} (k:Nat) (h:k<l.length):eC l (k:Int)=some l[k]:=by
 unfold eC
 rw [if_pos (by omega),HQ,HA h]
theorem fQ {i:Int} {n:Nat} (h0:¬i<0) (h1:¬(n:Int)≤i):∃ k:Nat,i=k∧k<n:=by
 obtain ⟨k,rfl⟩:=HH (show 0≤i by omega)
 exact ⟨k,rfl,by omega⟩
theorem oY {l:List Int} {i:Int} (h:¬(0≤i∧i<l.length)):pS l i=0:=by unfold pS;rw [Sl.nth_no h];rfl
theorem oZ {l:List Int} {k:Nat} (h:k<l.length):pS l (k:Int)=l[k]:=by unfold pS;rw [il k h];rfl
theorem bS {n:Nat} {i:Int} (h:¬(0≤i∧i<n)):dC n i=false:=by
 unfold dC
 by_cases h0:0≤i
 ·simp only [h0,decide_true,Hx,decide_eq_false_iff_not];omega
 ·simp [h0]
theorem eF {k n:Nat} (h:k<n):dC n (k:Int)=true:=by unfold dC;simp [h]
theorem iN (n:Int) (w:World):Calls prog 82 #[.int .i64 n] w fun e w'=>e=.returned (.bool (aj n))∧w=w':=by
 go_enter func82,ntmps82
 by_cases h1:1≤n
 ·by_cases h2:n≤128
  ·go_wp2
   go_ret
   exact ⟨ad (by simp [aj,h1,h2]),rfl⟩
  ·go_wp2
   go_ret
   exact ⟨ad (by simp [aj,h2]),rfl⟩
 ·go_wp2
  go_ret
  exact ⟨ad (by simp [aj];omega),rfl⟩
theorem o0 (n:Int) (w:World):Calls prog 103 #[.int .i64 n] w fun e w'=>e=.returned (.bool (aj n))∧w=w':=by
 go_enter func103,ntmps103
 by_cases h1:0<n
 focus by_cases h2:n<129
 all_goals
  go_wp2
  go_ret
  exact ⟨ad (by simp [aj];omega),rfl⟩
theorem iO (A:Option Addr) (cap:Nat) (xs:List Int) (i:Int) (w:World) (h:Sl 1 bc w w.heap.size A xs):
  Calls prog 129 #[.slice A xs.length cap,.int .i64 i] w fun e w'=>e=.returned (.tuple #[.int .i64 (pS xs i),.bool (dC xs.length i)])∧w=w':=by
 have hl:=h.len
 go_enter func129,ntmps129
 by_cases h0:i<0
 rotate_right
 focus
  by_cases h1:(xs.length:Int)≤i
  rotate_right
  focus
   obtain ⟨k,rfl,hk⟩:=fQ h0 h1
   have e1:=aa (oZ hk)
   have e2:=aa (eF hk)
   obtain ⟨b,o,rfl,hb,hc⟩:=h.int hk
   have hki:(k:Int)<(xs.length:Int):=by omega
   go_wp2
   refine bodyPost_ret (results_tmp2 rfl _ _ _) rfl ?_
   exact ⟨by rw [e1.out,e2.out]<;>rfl,rfl⟩
 all_goals
  have e1:=aa (oY (l:=xs) (i:=i) (by omega))
  have e2:=aa (bS (n:=xs.length) (i:=i) (by omega))
  go_wp2
  refine bodyPost_ret (results_tmp2 rfl _ _ _) rfl ?_
  exact ⟨by rw [e1.out,e2.out]<;>rfl,rfl⟩
theorem kE (A:Option Addr) (cap:Nat) (xs:List (List Int)) (i:Int) (w:World) (h:Sl 1 (mS 1 bc) w w.heap.size A xs):
  Calls prog 128 #[.slice A xs.length cap,.int .i64 i] w fun e w'=>∃ A' c',e=.returned (.tuple #[.slice A' ((eC xs i).getD []).length c',.bool (dC xs.length i)])∧Sl 1 bc w w.heap.size A' ((eC xs i).getD [])∧w=w':=by
 have hl:=h.len
 go_enter func128,ntmps128
 by_cases h0:i<0
 ·have e1:=aa (Sl.nth_no (l:=xs) (i:=i) (by omega))
  have e2:=aa (bS (n:=xs.length) (i:=i) (by omega))
  go_wp2
  refine bodyPost_ret (results_tmp2 rfl _ _ _) rfl ?_
  exact ⟨none,0,by rw [e1.out,e2.out]<;>rfl,by rw [e1.out];exact Sl.nil_,rfl⟩
 ·by_cases h1:(xs.length:Int)≤i
  ·have e1:=aa (Sl.nth_no (l:=xs) (i:=i) (by omega))
   have e2:=aa (bS (n:=xs.length) (i:=i) (by omega))
   go_wp2
   refine bodyPost_ret (results_tmp2 rfl _ _ _) rfl ?_
   exact ⟨none,⟨0,by rw [e1.out,e2.out]<;>rfl⟩,by rw [e1.out];exact Sl.nil_,rfl⟩
  ·obtain ⟨k,rfl,hk⟩:=fQ h0 h1
   have e1:=aa (il k hk)
   have e2:=aa (eF hk)
   obtain ⟨b,o,A',c',rfl,hb,hc,hs⟩:=h.ints hk
   have hki:(k:Int)<(xs.length:Int):=by omega
   clear h
   replace hs:=aa hs
   go_wp2
   refine bodyPost_ret (results_tmp2 rfl _ _ _) rfl ?_
   exact ⟨A',⟨c',by rw [e1.out,e2.out]<;>rfl⟩,by rw [e1.out];exact hs.out,rfl⟩
theorem o7 (A:Option Addr) (cap:Nat) (xs:List sM) (i:Int) (w:World) (h:Sl 2 zp w w.heap.size A xs):
  Calls prog 136 #[.slice A xs.length cap,.int .i64 i] w fun e w'=>∃ A1 c1 A2 n2 c2,e=.returned (.tuple #[.agg #[.slice A1 (((eC xs i).map sM.params).getD []).length c1,.slice A2 n2 c2],.bool (dC xs.length i)])∧Sl 1 bc w w.heap.size A1 (((eC xs i).map sM.params).getD [])∧Below w.heap.size w w':=by
 have hl:=h.len
 go_enter func136,ntmps136
 by_cases h0:i<0
 ·have e1:=aa (Sl.nth_no (l:=xs) (i:=i) (by omega))
  have e2:=aa (bS (n:=xs.length) (i:=i) (by omega))
  go_wp2
  refine bodyPost_ret (v:=.tuple #[.agg #[.slice none 0 0,.slice none 0 0],.bool false]) (by simp [results,results136,go_sem]) rfl ?_
  exact ⟨none,0,none,0,0,by rw [e1.out,e2.out]<;>rfl,by rw [e1.out];exact Sl.nil_,(Hs _ _).alloc (Ht _) _⟩
 ·by_cases h1:(xs.length:Int)≤i
  ·have e1:=aa (Sl.nth_no (l:=xs) (i:=i) (by omega))
   have e2:=aa (bS (n:=xs.length) (i:=i) (by omega))
   go_wp2
   refine bodyPost_ret (v:=.tuple #[.agg #[.slice none 0 0,.slice none 0 0],.bool false]) (by simp [results,results136,go_sem]) rfl ?_
   exact ⟨none,⟨0,none,0,0,by rw [e1.out,e2.out]<;>rfl⟩,by rw [e1.out];exact Sl.nil_,(Hs _ _).alloc (Ht _) _⟩
  ·obtain ⟨k,rfl,hk⟩:=fQ h0 h1
   have e1:=aa (il k hk)
   have e2:=aa (eF hk)
   obtain ⟨b,o,ecs,rfl,hb,hn,hcell,A1,A2,c1,c2,rfl,hs1,hs2⟩:=h.2 k _ (HA hk)
   have x0:w.cell? ⟨b,o+k*2,none⟩=some (.slice A1 xs[k].params.length c1):=hcell 0 _ rfl
   have x1:w.cell? ⟨b,o+k*2+1,none⟩=some (.slice A2 xs[k].body.length c2):=hcell 1 _ rfl
   have hki:(k:Int)<(xs.length:Int):=by omega
   clear h hs2 hcell hn
   replace hs1:=aa hs1
   go_wp2
   refine bodyPost_ret (v:=.tuple #[.agg #[.slice A1 xs[k].params.length c1,.slice A2 xs[k].body.length c2],.bool true]) (by simp [results,results136,go_sem]) rfl ?_
   exact ⟨A1,⟨c1,A2,_,c2,by rw [e1.out,e2.out]<;>rfl⟩,by rw [e1.out];exact hs1.out,(Hs _ _).alloc (Ht _) _⟩
theorem o8 (A:Option Addr) (cap:Nat) (xs:List Int) (i:Int) (w:World) (h:Sl 1 bc w w.heap.size A xs):
  Calls prog 144 #[.slice A xs.length cap,.int .i64 i] w fun e w'=>e=.returned (.int .i64 (pS xs i))∧w=w':=by
 have hl:=h.len
 go_enter func144,ntmps144
 by_cases h0:i<0
 rotate_right
 focus
  by_cases h1:(xs.length:Int)≤i
  rotate_right
  focus
   obtain ⟨k,rfl,hk⟩:=fQ h0 h1
   have e1:=aa (oZ hk)
   obtain ⟨b,o,rfl,hb,hc⟩:=h.int hk
   have hki:(k:Int)<(xs.length:Int):=by omega
   go_wp2
   go_ret
   exact ⟨av e1.out.symm,rfl⟩
 all_goals
  have e1:=aa (oY (l:=xs) (i:=i) (by omega))
  go_wp2
  go_ret
  exact ⟨av e1.out.symm,rfl⟩
theorem Cn (a b z mh ml:Int) (w:World) (hCt:∀ W,Calls prog 168 #[.agg #[.int .u64 a,.int .u64 b],.int .i64 z] W fun e w'=>e=.returned (.agg #[.int .u64 mh,.int .u64 ml])∧Below W.heap.size W w'):Calls prog 133 #[.agg #[.int .u64 a,.int .u64 b],.int .i64 z] w fun e w'=>e=.returned (.bool (mh==a&&ml==b))∧Below w.heap.size w w':=by
 obtain ⟨wa,hwa,hsa,hba,hca,-⟩:=af w #[.int .u64 a,.int .u64 b] 96
 have x0:wa.cell? ⟨w.heap.size,0,none⟩=some (.int .u64 a):=hca 0
 have x1:wa.cell? ⟨w.heap.size,1,none⟩=some (.int .u64 b):=hca 1
 have hk2:w.heap.size<wa.heap.size:=by omega
 have hM:∀ d os,Hid (Calls prog 168 #[.agg #[.int .u64 a,.int .u64 b],.int .i64 z] (HG (redrawn wa d) os) _):=fun d os=>aa (hCt _)
 have hg:=aS (show Below wa.heap.size wa wa from Hs _ _) (Ht _)
 replace hba:=aa hba
 replace hsa:=aa hsa
 clear hca
 have hfin:=aa (fun w1 (h:Below wa.heap.size wa w1)=>hba.out.trans (h.mono (show w.heap.size≤wa.heap.size by omega)))
 clear hCt
 by_cases e1:mh=a
 focus
  subst e1
  by_cases e2:ml=b
  focus
   subst e2
   go_enter func133,ntmps133
   go_wp2_with fail
   refine cR ?_
   repeat (any_goals (first|go_big_quiet_step (first|(go_at_call 168;with_reducible exact Hv (hM _ _).out)|fail)|quiet_step (first|(go_at_call 168;with_reducible exact Hv (hM _ _).out)|fail)))
   refine wpQuiet_nil ?_
   intro w1 hw1
   replace hw1:=ac hw1
   go_wp2
   go_ret
   exact ⟨ad (by simp),hfin.out _ hw1⟩
  rotate_right
  have hv:=aa (beq_eq_false_iff_ne.2 e2)
 rotate_right
 have hv:=aa (beq_eq_false_iff_ne.2 e1)
 all_goals
  go_enter func133,ntmps133
  go_wp2_with fail
  refine cR ?_
  repeat (any_goals (first|go_big_quiet_step (first|(go_at_call 168;with_reducible exact Hv (hM _ _).out)|fail)|quiet_step (first|(go_at_call 168;with_reducible exact Hv (hM _ _).out)|fail)))
  refine wpQuiet_nil ?_
  intro w1 hw1
  replace hw1:=ac hw1
  go_wp2
  go_ret
  exact ⟨ad (by rw [hv.out];simp),hfin.out _ hw1⟩
theorem dw (x:Int) (m:Nat) (h0:0≤x) (h1:x<18446744073709551616) (hm:m≤64):aJ x (2 ^ m-1)=x % 2 ^ m:=by
 obtain ⟨X,rfl⟩:=HH h0
 have hp:0<2 ^ m:=Nat.two_pow_pos m
 have hle:2 ^ m≤2 ^ 64:=Ii (by omega) hm
 have e:((2:Int) ^ m-1)=((2 ^ m-1:Nat):Int):=by rw [Int.ofNat_sub hp];simp
 rw [aJ,e,u64_and_nat X (2 ^ m-1) (by omega) (by omega),Nat.and_two_pow_sub_one_eq_mod]
 simp
theorem uE (l:Lt) (n:Nat) (hl:kO l) (h1:1≤n) (h2:n≤128):(aJ l.2.1 (aX n)==l.2.1&&aJ l.2.2 (aP n)==l.2.2)=jM (n:Int) l:=by
 obtain ⟨-,⟨a0,a1⟩,b0,b1⟩:=hl
 unfold jM qc aX aP
 rw [HQ]
 rw [HF]
 simp only [Hy,beq_iff_eq,decide_eq_true_eq]
 by_cases h:n≤64
 ·rw [if_pos h,if_pos h,dw _ n b0 b1 h]
  have e0:aJ l.2.1 0=0:=by have:=dw l.2.1 0 a0 a1 (by omega);simpa using this
  rw [e0]
  have hp:(0:Int)<2 ^ n:=Int.pow_pos (by omega)
  have hle:(2:Int) ^ n≤18446744073709551616:=by
   have h3:(2:Nat) ^ n≤18446744073709551616:=Hw (Ii (by omega) h) (by decide)
   have h4:=Int.ofNat_le.2 h3
   rw [Int.natCast_pow] at h4
   exact h4
  constructor
  ·rintro ⟨h3,h4⟩
   have:=Int.emod_lt_of_pos l.2.2 hp
   omega
  ·intro h3
   have:l.2.1=0:=by omega
   exact ⟨this.symm,Int.emod_eq_of_lt b0 (by omega)⟩
 ·rw [if_neg h,if_neg h,dw _ (n-64) a0 a1 (by omega)]
  have e1:aJ l.2.2 18446744073709551615=l.2.2:=by
   have:=dw l.2.2 64 b0 b1 (by omega)
   rw [Int.emod_eq_of_lt b0 (by simpa using b1)] at this
   simpa using this
  rw [e1]
  have hp:(0:Int)<2 ^ (n-64):=Int.pow_pos (by omega)
  have hs:(2:Int) ^ n=2 ^ (n-64)*18446744073709551616:=by
   have:(2:Int) ^ (n-64+64)=2 ^ (n-64)*2 ^ 64:=Int.pow_add 2 (n-64) 64
   rw [show n-64+64=n by omega] at this
   simpa using this
  rw [hs]
  generalize (2:Int) ^ (n-64)=q at*
  constructor
  ·rintro ⟨h3,-⟩
   have:=Int.emod_lt_of_pos l.2.1 hp
   have h5:l.2.1+1≤q:=by omega
   have:=Int.mul_le_mul_of_nonneg_right h5 (show (0:Int)≤18446744073709551616 by omega)
   omega
  ·intro h3
   refine ⟨Int.emod_eq_of_lt a0 ?_,rfl⟩
   rcases Int.lt_or_le l.2.1 q with h5|h5
   ·exact h5
   ·have:=Int.mul_le_mul_of_nonneg_right h5 (show (0:Int)≤18446744073709551616 by omega)
    omega
end Go.Proofs.YtijcdfdbkffiaaaGreatDoor

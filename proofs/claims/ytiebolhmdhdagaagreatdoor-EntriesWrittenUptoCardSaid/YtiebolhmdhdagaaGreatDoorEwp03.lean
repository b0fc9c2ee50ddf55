import Derived.Test.YtiebolhmdhdagaaGreatDoorEwp02
set_option linter.all false
namespace Go.Proofs.YtiebolhmdhdagaaGreatDoor
open _root_.Bool renaming false_and→Hg, true_and→Hk, and_eq_true→Hl, eq_iff_iff→Hr, false_eq_true→Hy, or_eq_true→HQ
open _root_.Nat renaming le_refl→Hh, le_trans→Hj
open _root_.List renaming getElem?_eq_getElem→Hn, getElem_mem→Ho, length_cons→Hp, length_append→Hu, getElem_of_mem→Hw, all_eq_true→Hx, mem_cons→HD, range→HJ, mem_map→HN, mem_range→HO, mem_append→H0, append_nil→H2, nil_append→H5, eq_nil_of_length_eq_zero→H8
open _root_.Int renaming eq_ofNat_of_zero_le→Hv, toNat_natCast→HG
open _root_.Option renaming getD_some→H9
open Go.RowKit
def eP:List (Int×Int)→Int→Int
 | [],_=>0
 |x::M,i=>if i=x.1 then x.2 else eP M i
def gI:List (Int×Int)→Int→Int→List (Int×Int)
 | [],i,v=> [(i,v)]
 |x::M,i,v=>if i=x.1 then (i,v)::M else x::gI M i v
theorem o7 (M:List (Int×Int)) (i v j:Int):eP (gI M i v) j=if j=i then v else eP M j:=by
 induction M with
 |nil=>simp [gI,eP]
 |cons x M ih=>
  simp only [gI]
  by_cases h:i=x.1
  ·subst h
   simp only [if_true,eP]
   split<;>simp_all
  ·simp only [if_neg h,eP,ih]
   by_cases h2:j=x.1
   ·simp only [if_pos h2]
    rw [if_neg (by omega)]
   ·simp only [if_neg h2]
def bM (d:List (Int×Int)→Int→Bool×List (Int×Int)):List (Int×Int)→List Int→Bool×List (Int×Int)
 |M,[]=>(false,M)
 |M,x::l=>if (d M x).1=true then (true,(d M x).2) else bM d (d M x).2 l
def im (g:Int→List Int):Nat→List (Int×Int)→Int→Bool×List (Int×Int)
 |0,M,_=>(false,M)
 |f+1,M,i=>if i<0 then (false,M) else if 0<eP M i then (eP M i==1,M) else
  ((bM (im g f) (gI M i 1) (g i)).1,gI (bM (im g f) (gI M i 1) (g i)).2 i 2)
def white (n:Nat) (M:List (Int×Int)):Nat:=((HJ n).filter fun j:Nat=>decide (eP M (j:Int)=0)).length
inductive j8 (g:Int→List Int):Int→Int→Prop
 |one {i t:Int}:t∈g i→0≤t→j8 g i t
 |more {i t u:Int}:j8 g i t→u∈g t→0≤u→j8 g i u
theorem j8.cons {g:Int→List Int} {i t u:Int} (h:t∈g i) (h0:0≤t) (hr:j8 g t u):j8 g i u:=by
 induction hr with
 |one a b=>exact .more (.one h h0) a b
 |more _ a b ih=>exact .more ih a b
theorem j8.into {g:Int→List Int} {S:Int→Prop} (hS:∀ j,S j→∀ t∈g j,0≤t→S t) {i t:Int} (h:j8 g i t) (hi:∀ t∈g i,0≤t→S t):S t:=by
 induction h with
 |one a b=>exact hi _ a b
 |more _ a b ih=>exact hS _ ih _ a b
structure Ea (g:Int→List Int) (M:List (Int×Int)):Prop where
 val:∀ j,eP M j=0∨eP M j=1∨eP M j=2
 shut:∀ j,eP M j=2→∀ t∈g j,0≤t→eP M t=2
 none:∀ j,eP M j=2→¬j8 g j j
structure xd (n:Nat) (M M':List (Int×Int)):Prop where
 gray:∀ j,eP M' j=1↔eP M j=1
 black:∀ j,eP M j=2→eP M' j=2
 white:white n M'≤white n M
theorem xd.refl (n:Nat) (M:List (Int×Int)):xd n M M:=⟨fun _=>Iff.rfl,fun _ h=>h,Hh _⟩
theorem xd.trans {n:Nat} {M M' M'':List (Int×Int)} (a:xd n M M') (b:xd n M' M''):xd n M M'':=⟨fun j=>(b.gray j).trans (a.gray j),fun j h=>b.black j (a.black j h),Hj b.white a.white⟩
theorem o8 {α:Type} {p q:α→Bool} (l:List α) (h:∀ x,p x=true→q x=true):(l.filter p).length≤(l.filter q).length:=by
 induction l with
 |nil=>simp
 |cons x l ih=>
  by_cases hx:p x=true
  ·simp only [List.filter_cons,hx,h x hx,if_true,Hp];omega
  ·by_cases hy:q x=true
   ·simp only [List.filter_cons,hx,hy,if_true,Hy,if_false,Hp];omega
   ·simp only [List.filter_cons,hx,hy,Hy,if_false];exact ih
theorem mK {n:Nat} {M M':List (Int×Int)} (h:∀ j,eP M' j=0→eP M j=0):white n M'≤white n M:=by
 refine o8 _ fun j hj=> ?_
 simp only [decide_eq_true_eq] at hj ⊢
 exact h _ hj
theorem xe {α:Type} {p q:α→Bool} (l:List α) (h:∀ x,p x=true→q x=true) {a:α} (ha:a∈l) (hq:q a=true) (hp:p a=false):(l.filter p).length<(l.filter q).length:=by
 induction l with
 |nil=>simp at ha
 |cons x l ih=>
  have hle:(l.filter p).length≤(l.filter q).length:=o8 l h
  rcases HD.1 ha with rfl|ha
  ·simp only [List.filter_cons,hq,hp,if_true,Hy,if_false,Hp];omega
  ·have:=ih ha
   by_cases hx:p x=true
   ·simp only [List.filter_cons,hx,h x hx,if_true,Hp];omega
   ·by_cases hy:q x=true
    ·simp only [List.filter_cons,hx,hy,if_true,Hy,if_false,Hp];omega
    ·simp only [List.filter_cons,hx,hy,Hy,if_false];exact this
theorem pd {n:Nat} {M:List (Int×Int)} {i:Int} (h0:0≤i) (h1:i<n) (hz:eP M i=0):white n (gI M i 1)<white n M:=by
 obtain ⟨k,rfl⟩:=Hv h0
 refine xe (a:=k) _ (fun j hj=> ?_) (HO.2 (by omega)) (by simpa using hz) (by simp [o7])
 simp only [decide_eq_true_eq,o7] at hj ⊢
 split at hj
 ·omega
 ·exact hj
theorem qu {g:Int→List Int} {n:Nat} {d:List (Int×Int)→Int→Bool×List (Int×Int)} {F:Nat} {Gr:Int→Prop}:∀ (l:List Int) (M:List (Int×Int)),white n M≤F→Ea g M→(∀ j,eP M j=1→Gr j)→
  (∀ x∈l,∀ M,white n M≤F→Ea g M→(∀ j,eP M j=1→Gr j)→((d M x).1=true→∃ j,0≤j∧j8 g j j)∧((d M x).1=false→Ea g (d M x).2∧xd n M (d M x).2∧(0≤x→eP (d M x).2 x=2)))→
  ((bM d M l).1=true→∃ j,0≤j∧j8 g j j)∧((bM d M l).1=false→Ea g (bM d M l).2∧xd n M (bM d M l).2∧∀ x∈l,0≤x→eP (bM d M l).2 x=2)
 | [],M,_,hb,_,_=>by
  simp only [bM]
  exact ⟨fun h=>(by cases h),fun _=>⟨hb,xd.refl _ _,fun x hx=>by simp at hx⟩⟩
 |x::l,M,hw,hb,hg,h=>by
  have hx:=h x (by simp) M hw hb hg
  simp only [bM]
  by_cases hr:(d M x).1=true
  ·simp only [if_pos hr];exact ⟨fun _=>hx.1 hr,fun h=>by cases h⟩
  ·simp only [if_neg hr]
   obtain ⟨h1,h2,h3⟩:=hx.2 (by simpa using hr)
   have hi:=qu l (d M x).2 (Hj h2.white hw) h1 (fun j hj=>hg j ((h2.gray j).1 hj)) (fun y hy=>h y (by simp [hy]))
   refine ⟨hi.1,fun hf=> ?_⟩
   obtain ⟨k1,k2,k3⟩:=hi.2 hf
   refine ⟨k1,h2.trans k2,fun y hy hy0=> ?_⟩
   rcases HD.1 hy with rfl|hy
   ·exact k2.black _ (h3 hy0)
   ·exact k3 y hy hy0
theorem zQ {g:Int→List Int} {n:Nat} (hg:∀ i,∀ t∈g i,t<n):∀ (f:Nat) (M:List (Int×Int)) (i:Int),white n M<f→i<n→Ea g M→(∀ j,eP M j=1→j8 g j i)→
  ((im g f M i).1=true→∃ j,0≤j∧j8 g j j)∧((im g f M i).1=false→Ea g (im g f M i).2∧xd n M (im g f M i).2∧(0≤i→eP (im g f M i).2 i=2))
 |0,M,i,hw,_,_,_=>by omega
 |f+1,M,i,hw,hi,hb,hgr=>by
  simp only [im]
  by_cases h0:i<0
  ·simp only [if_pos h0];exact ⟨fun h=>(by cases h),fun _=>⟨hb,xd.refl _ _,fun h=>by omega⟩⟩
  ·simp only [if_neg h0]
   rcases hb.val i with hv|hv|hv
   ·rw [if_neg (by omega)]
    have hM1:∀ j,eP (gI M i 1) j=if j=i then 1 else eP M j:=fun j=>o7 M i 1 j
    have hb1:Ea g (gI M i 1):=⟨fun j=>by
      rw [hM1]
      split
      ·exact .inr (.inl rfl)
      ·exact hb.val j,fun j hj t ht ht0=>by
      rw [hM1] at hj ⊢
      split at hj
      ·omega
      ·have:=hb.shut j hj t ht ht0
       rw [if_neg (fun e=>by subst e;omega)];exact this,fun j hj=>by
      rw [hM1] at hj
      split at hj
      ·omega
      ·exact hb.none j hj⟩
    have hw1:=pd (n:=n) (by omega) hi hv
    have ha:=qu (g:=g) (n:=n) (d:=im g f) (F:=white n (gI M i 1)) (Gr:=fun j=>j=i∨j8 g j i) (g i) (gI M i 1) (Hh _) hb1 (fun j hj=>by
      rw [hM1] at hj
      split at hj
      ·left;assumption
      ·right;exact hgr j hj) (fun x hx M' hw' hb' hg'=>by
      by_cases hx0:0≤x
      ·refine zQ hg f M' x (by omega) (hg i x hx) hb' fun j hj=> ?_
       rcases hg' j hj with rfl|h
       ·exact .one hx hx0
       ·exact .more h hx hx0
      ·cases f with
       |zero=>omega
       |succ f=>
        simp only [im,if_pos (show x<0 by omega)]
        exact ⟨fun h=>(by cases h),fun _=>⟨hb',xd.refl _ _,fun h=>by omega⟩⟩)
    refine ⟨ha.1,fun hf=> ?_⟩
    obtain ⟨k1,k2,k3⟩:=ha.2 hf
    have hA:=bM (im g f) (gI M i 1) (g i)
    have hgi:eP (bM (im g f) (gI M i 1) (g i)).2 i=1:=(k2.gray i).2 (by rw [hM1,if_pos rfl])
    have hN:∀ j,eP (gI (bM (im g f) (gI M i 1) (g i)).2 i 2) j=if j=i then 2 else eP (bM (im g f) (gI M i 1) (g i)).2 j:=fun j=>o7 _ i 2 j
    refine ⟨⟨fun j=> ?_,fun j hj t ht ht0=> ?_,fun j hj=> ?_⟩,⟨fun j=> ?_,fun j hj=> ?_,?_⟩,fun _=>by rw [hN,if_pos rfl]⟩
    ·rw [hN]
     split
     ·exact .inr (.inr rfl)
     ·exact k1.val j
    ·rw [hN] at hj ⊢
     by_cases hti:t=i
     ·rw [if_pos hti]
     ·rw [if_neg hti]
      by_cases hji:j=i
      ·subst hji;exact k3 t ht ht0
      ·rw [if_neg hji] at hj;exact k1.shut j hj t ht ht0
    ·by_cases hji:j=i
     ·subst hji
      intro hr
      have:=j8.into (S:=fun t=>eP (bM (im g f) (gI M j 1) (g j)).2 t=2) (fun a ha t ht ht0=>k1.shut a ha t ht ht0) hr (fun t ht ht0=>k3 t ht ht0)
      omega
     ·rw [hN,if_neg hji] at hj;exact k1.none j hj
    ·rw [hN]
     by_cases hji:j=i
     ·subst hji;rw [if_pos rfl];omega
     ·rw [if_neg hji,k2.gray,hM1,if_neg hji]
    ·have hji:j≠i:=fun e=>by subst e;omega
     rw [hN,if_neg hji]
     exact k2.black j (by rw [hM1,if_neg hji];exact hj)
    ·refine mK fun j hj=> ?_
     rw [hN] at hj
     split at hj
     ·omega
     ·rename_i hji
      rcases hb.val j with h|h|h
      ·exact h
      ·have:=(k2.gray j).2 (by rw [hM1,if_neg hji];exact h);omega
      ·have:=k2.black j (by rw [hM1,if_neg hji];exact h);omega
   ·rw [if_pos (by omega),hv]
    exact ⟨fun _=>⟨i,by omega,hgr i hv⟩,fun h=>by simp at h⟩
   ·rw [if_pos (by omega),hv]
    exact ⟨fun h=>by simp at h,fun _=>⟨hb,xd.refl _ _,fun _=>by first|exact hv|rfl⟩⟩
def eK (n:Nat):List Int:=(HJ n).map (fun k:Nat=>(k:Int))
theorem rG (n:Nat) (M:List (Int×Int)):white n M≤n:=by
 unfold white
 have:=List.length_filter_le (fun j:Nat=>decide (eP M (j:Int)=0)) (HJ n)
 rw [List.length_range] at this;exact this
theorem CI {g:Int→List Int} {n:Nat} (hg:∀ i,∀ t∈g i,t<n):(bM (im g (n+1)) [] (eK n)).1=true↔∃ i:Nat,i<n∧j8 g (i:Int) (i:Int):=by
 have h:=qu (g:=g) (n:=n) (d:=im g (n+1)) (F:=n) (Gr:=fun _=>False) (eK n) [] (rG _ _) ⟨fun j=>.inl rfl,fun j h=>by simp [eP] at h,fun j h=>by simp [eP] at h⟩ (fun j h=>by simp [eP] at h)
  (fun x hx M hw hb hgr=>zQ hg (n+1) M x (by omega) (by simp only [eK,HN,HO] at hx;obtain ⟨k,hk,rfl⟩:=hx;omega) hb (fun j hj=>(hgr j hj).elim))
 constructor
 ·intro ht
  obtain ⟨j,h0,hr⟩:=h.1 ht
  obtain ⟨k,rfl⟩:=Hv h0
  refine ⟨k,?_,hr⟩
  have:∀ {a b:Int},j8 g a b→b<n:=fun hr=>by
   cases hr with
   |one a _=>exact hg _ _ a
   |more _ a _=>exact hg _ _ a
  have:=this hr
  omega
 ·rintro ⟨i,hi,hr⟩
  cases hc:(bM (im g (n+1)) [] (eK n)).1 with
  |true=>rfl
  |false=>
   obtain ⟨k1,k2,k3⟩:=h.2 hc
   exact absurd hr (k1.none _ (k3 _ (by simp only [eK,HN,HO];exact ⟨i,hi,rfl⟩) (by omega)))
def lH (s:Int):List Int→List Int→List Int→Option (List Int×List Int)
 |seen,next,[]=>some (seen,next)
 |seen,next,t::l=>if t=s then none else if 0≤t∧t∉seen then lH s (seen++ [t]) (next++ [t]) l else lH s seen next l
def vJ (g:Int→List Int) (s:Int):List Int→List Int→List Int→Option (List Int×List Int)
 |seen,next,[]=>some (seen,next)
 |seen,next,i::l=>match lH s seen next (g i) with
  |none=>none
  |some r=>vJ g s r.1 r.2 l
def zn (g:Int→List Int) (s:Int):Nat→List Int→List Int→Bool
 |_,_,[]=>false
 |0,_,_::_=>false
 |f+1,seen,i::now=>match vJ g s seen [] (i::now) with
  |none=>true
  |some r=>zn g s f r.1 r.2
structure Sn (g:Int→List Int) (n:Nat) (s:Int) (seen:List Int):Prop where
 nodup:seen.Nodup
 mem:∀ t∈seen,0≤t∧t<n∧t≠s∧j8 g s t
theorem um {g:Int→List Int} {n:Nat} {s i:Int} (hg:∀ i,∀ t∈g i,t<n) (hi:i=s∨j8 g s i):∀ (l seen next:List Int),(∀ t∈l,t∈g i)→Sn g n s seen→
  match lH s seen next l with
  |none=>0≤s→j8 g s s
  |some (seen',next')=>∃ m,seen'=seen++m∧next'=next++m∧Sn g n s seen'∧∀ t∈l,t≠s∧(0≤t→t∈seen')
 | [],seen,next,_,hs=>by simp only [lH];exact ⟨[],by simp,by simp,hs,fun t ht=>by simp at ht⟩
 |t::l,seen,next,hl,hs=>by
  have ht:t∈g i:=hl t (by simp)
  simp only [lH]
  by_cases h1:t=s
  ·simp only [if_pos h1]
   intro h0
   subst h1
   rcases hi with rfl|hi
   ·exact .one ht h0
   ·exact .more hi ht h0
  ·simp only [if_neg h1]
   by_cases h2:0≤t∧t∉seen
   ·simp only [if_pos h2]
    have hs':Sn g n s (seen++ [t]):=⟨by rw [List.nodup_append];exact ⟨hs.nodup,by simp,fun a ha b hb=>by simp at hb;subst hb;exact fun e=>h2.2 (e ▸ ha)⟩,fun u hu=>by
     rcases H0.1 hu with hu|hu
     ·exact hs.mem u hu
     ·simp at hu;subst hu
      refine ⟨h2.1,hg i _ ht,h1,?_⟩
      rcases hi with rfl|hi
      ·exact .one ht h2.1
      ·exact .more hi ht h2.1⟩
    have:=um hg hi l (seen++ [t]) (next++ [t]) (fun u hu=>hl u (by simp [hu])) hs'
    revert this
    cases lH s (seen++ [t]) (next++ [t]) l with
    |none=>exact fun h=>h
    |some r=>
     rintro ⟨m,e1,e2,h3,h4⟩
     refine ⟨t::m,by simp [e1],by simp [e2],h3,fun u hu=> ?_⟩
     rcases HD.1 hu with rfl|hu
     ·exact ⟨h1,fun _=>by rw [e1];simp⟩
     ·exact h4 u hu
   ·simp only [if_neg h2]
    have:=um hg hi l seen next (fun u hu=>hl u (by simp [hu])) hs
    revert this
    cases lH s seen next l with
    |none=>exact fun h=>h
    |some r=>
     rintro ⟨m,e1,e2,h3,h4⟩
     refine ⟨m,e1,e2,h3,fun u hu=> ?_⟩
     rcases HD.1 hu with rfl|hu
     ·refine ⟨h1,fun h0=> ?_⟩
      rw [e1]
      have:u∈seen:=by
       by_cases hm:u∈seen
       ·exact hm
       ·exact absurd ⟨h0,hm⟩ h2
      simp [this]
     ·exact h4 u hu
theorem zR {g:Int→List Int} {n:Nat} {s:Int} (hg:∀ i,∀ t∈g i,t<n):∀ (l seen next:List Int),(∀ i∈l,i=s∨j8 g s i)→Sn g n s seen→
  match vJ g s seen next l with
  |none=>0≤s→j8 g s s
  |some (seen',next')=>∃ m,seen'=seen++m∧next'=next++m∧Sn g n s seen'∧∀ i∈l,∀ t∈g i,t≠s∧(0≤t→t∈seen')
 | [],seen,next,_,hs=>by simp only [vJ];exact ⟨[],by simp,by simp,hs,fun t ht=>by simp at ht⟩
 |i::l,seen,next,hl,hs=>by
  have h1:=um hg (hl i (by simp)) (g i) seen next (fun _ h=>h) hs
  simp only [vJ]
  revert h1
  cases hp:lH s seen next (g i) with
  |none=>exact fun h=>h
  |some r=>
   obtain ⟨s1,n1⟩:=r
   rintro ⟨m,e1,e2,h3,h4⟩
   have h5:=zR hg l s1 n1 (fun j hj=>hl j (by simp [hj])) h3
   revert h5
   simp only
   cases vJ g s s1 n1 l with
   |none=>exact fun h=>h
   |some q=>
    rintro ⟨m2,e3,e4,h6,h7⟩
    refine ⟨m++m2,by simp [e3,e1],by simp [e4,e2],h6,fun j hj t ht=> ?_⟩
    rcases HD.1 hj with rfl|hj
    ·exact ⟨(h4 t ht).1,fun h0=>by rw [e3];simp [(h4 t ht).2 h0]⟩
    ·exact h7 j hj t ht
theorem xf {l:List Int}:∀ {m:List Int},l.Nodup→l ⊆ m→l.length≤m.length:=by
 induction l with
 |nil=>intro m _ _;simp
 |cons x l ih=>
  intro m h hs
  rw [List.nodup_cons] at h
  have hx:x∈m:=hs (by simp)
  have:=ih (m:=m.erase x) h.2 fun y hy=>(List.mem_erase_of_ne (fun e=>h.1 (by rw [←e];exact hy))).2 (hs (by simp [hy]))
  rw [List.length_erase_of_mem hx] at this
  have hp:0<m.length:=List.length_pos_of_mem hx
  simp only [Hp];omega
theorem j9 {n:Nat} {l:List Int} (h:l.Nodup) (hb:∀ t∈l,0≤t∧t<n):l.length≤n:=by
 have hs:l ⊆ eK n:=fun t ht=>by
  obtain ⟨h0,h1⟩:=hb t ht
  obtain ⟨k,rfl⟩:=Hv h0
  simp only [eK,HN,HO]
  exact ⟨k,by omega,rfl⟩
 have:=xf h hs
 simpa [eK] using this
theorem zS {g:Int→List Int} {n:Nat} {s:Int} (h0:0≤s) (hg:∀ i,∀ t∈g i,t<n):∀ (f:Nat) (seen now:List Int),n+1≤seen.length+f→(now= []∨n<seen.length+f)→Sn g n s seen→(∀ i∈now,i=s∨j8 g s i)→(∀ i,(i=s∨i∈seen)→i∉now→∀ t∈g i,t≠s∧(0≤t→t∈seen))→
  (zn g s f seen now=true↔j8 g s s)
 |f,seen,[],_,_,hs,_,hc=>by
  simp only [zn,Hy,false_iff]
  intro hr
  have:=j8.into (S:=fun t=>t∈seen) (fun j hj t ht ht0=>(hc j (.inr hj) (by simp) t ht).2 ht0) hr (fun t ht ht0=>(hc s (.inl rfl) (by simp) t ht).2 ht0)
  exact (hs.mem s this).2.2.1 rfl
 |0,seen,i::now,hf,_,hs,_,_=>by
  have:=j9 hs.nodup (fun t ht=>⟨(hs.mem t ht).1,(hs.mem t ht).2.1⟩)
  omega
 |f+1,seen,i::now,hf,_,hs,hn,hc=>by
  have h1:=zR hg (i::now) seen [] hn hs
  simp only [zn]
  revert h1
  cases hp:vJ g s seen [] (i::now) with
  |none=>intro h;simpa using h h0
  |some r=>
   obtain ⟨s1,n1⟩:=r
   rintro ⟨m,e1,e2,h3,h4⟩
   simp only [H5] at e2
   subst e2
   have hlen:=j9 h3.nodup (fun t ht=>⟨(h3.mem t ht).1,(h3.mem t ht).2.1⟩)
   by_cases hm:n1= []
   ·subst hm
    simp only [H2] at e1
    subst e1
    have hf0:zn g s f s1 []=false:=by cases f<;>rfl
    simp only [hf0,Hy,false_iff]
    intro hr
    have hcl:∀ j,(j=s∨j∈s1)→∀ t∈g j,t≠s∧(0≤t→t∈s1):=fun j hj t ht=>by
     by_cases hj2:j∈i::now
     ·exact h4 j hj2 t ht
     ·exact hc j hj hj2 t ht
    have:=j8.into (S:=fun t=>t∈s1) (fun j hj t ht ht0=>(hcl j (.inr hj) t ht).2 ht0) hr (fun t ht ht0=>(hcl s (.inl rfl) t ht).2 ht0)
    exact (h3.mem s this).2.2.1 rfl
   ·have hml:1≤n1.length:=by cases n1 with
     |nil=>exact absurd rfl hm
     |cons a b=>simp
    have hl1:s1.length=seen.length+n1.length:=by rw [e1,Hu]
    refine zS h0 hg f s1 n1 (by omega) (.inr (by omega)) h3 (fun j hj=>.inr (h3.mem j (by rw [e1];simp [hj])).2.2.2) (fun j hj hjn t ht=> ?_)
    by_cases hj2:j∈i::now
    ·exact h4 j hj2 t ht
    ·have:j=s∨j∈seen:=by
      rcases hj with hj|hj
      ·exact .inl hj
      ·rw [e1] at hj
       rcases H0.1 hj with hj|hj
       ·exact .inr hj
       ·exact absurd hj hjn
     have h5:=hc j this hj2 t ht
     exact ⟨h5.1,fun ht0=>by rw [e1];simp [h5.2 ht0]⟩
theorem vK {g:Int→List Int} {n:Nat} {s:Int} (h0:0≤s) (hg:∀ i,∀ t∈g i,t<n):zn g s (n+1) [] [s]=true↔j8 g s s:=
 zS h0 hg (n+1) [] [s] (by simp) (.inr (by simp)) ⟨List.nodup_nil,fun t h=>by simp at h⟩ (fun i hi=>by simp at hi;exact .inl hi) (fun i hi hn=>by
  rcases hi with rfl|hi
  ·simp at hn
  ·simp at hi)
theorem zT {g:Int→List Int} {n:Nat} (hg:∀ i,∀ t∈g i,t<n):(bM (im g (n+1)) [] (eK n)).1=(eK n).any fun s=>zn g s (n+1) [] [s]:=by
 rw [Hr,CI hg,List.any_eq_true]
 constructor
 ·rintro ⟨i,hi,hr⟩
  exact ⟨i,by simp only [eK,HN,HO];exact ⟨i,hi,rfl⟩,(vK (by omega) hg).2 hr⟩
 ·rintro ⟨s,hs,hr⟩
  simp only [eK,HN,HO] at hs
  obtain ⟨i,hi,rfl⟩:=hs
  exact ⟨i,hi,(vK (by omega) hg).1 hr⟩
structure Nd where
 op:Int
 w:Int
 a:Int
 b:Int
 hi:Int
 lo:Int
structure oF where
 kind:Int
 a:Int
 b:Int
 e:List Nd
 to:Int
structure Pt where
 vh:Int
 vl:Int
 mh:Int
 ml:Int
structure Br where
 pats:List Pt
 to:Int
structure lI where
 takes:List Int
 keys:List (List Nd)
 brs:List Br
 to:Int
structure qv where
 params:List Int
 body:List oF
structure Rn where
 act:Int
 args:List (Int×Int)
structure eF where
 keys:List (List Nd)
 kinds:List Int
 acts:List Int
 run:Rn
structure Lp where
 heads:List (List Int)
 metas:List Int
 steps:List lI
 acts:List qv
 tabs:List eF
 control:List oF
 emit:List Int
 nh:List ByteArray
 nf:List (List ByteArray)
 nm:List ByteArray
 na:List ByteArray
 nt:List ByteArray
def eG {α:Type} (l:List α) (i:Int):Option α:=if 0≤i then l[i.toNat]? else none
def dJ (n:Nat) (i:Int):Bool:=decide (0≤i)&&decide (i<n)
theorem Eb {α:Type} (l:List α) (i:Int):(eG l i).isSome=dJ l.length i:=by
 unfold eG dJ
 by_cases h:0≤i
 ·obtain ⟨k,rfl⟩:=Hv h
  simp only [if_pos h,HG,h,decide_true,Hk]
  by_cases hk:k<l.length
  ·rw [Hn hk];simp [hk]
  ·rw [List.getElem?_eq_none (by omega)];simp [hk]
 ·simp [h]
def rn (l:List Int) (i:Int):Int:=(eG l i).getD 0
def bN (w hi lo:Int):Bool:=kP w (0,hi,lo)
def eW (p:Lp) (act op a b:Int):Int:=
 if op=2 then rn ((eG p.heads a).getD []) b
 else if op=3 then rn p.metas a
 else if op=4 then rn (((eG p.acts act).map qv.params).getD []) a
 else if op=5 then (if a=0 then 9 else 0)
 else if op=6 then (if dJ p.heads.length a=true then 1 else 0) else 0
def rH (p:Lp) (act:Int) (n:Nd):Int:=if n.op=1 then (if n.a=0∧bN n.w n.hi n.lo=true then n.w else 0) else eW p act n.op n.a n.b
def xh (p:Lp) (act:Int) (n:Nd):Int:=
 if n.op=1 then (if n.a=0∧n.b=0∧aj n.w=true∧bN n.w n.hi n.lo=true then n.w else 0)
 else if ¬(n.hi=0∧n.lo=0)∨(n.op≠2∧n.b≠0) then 0 else eW p act n.op n.a n.b
def cG (op:Int):Bool:=decide (op=7) ||decide (op=8) ||decide (op=9) ||decide (op=13) ||decide (op=14)
def xi (n:Nd) (w:Int):Int:=if n.op=7∨n.op=8 then w else if n.op=13∨n.op=14 then (if 0≤n.a∧n.a≤127 then w else 0) else (if n.b<0∨n.a<n.b∨w≤n.a then 0 else n.a-n.b+1)
def qw (n:Nd) (w:Int):Int:=if n.op=7∨n.op=8 then (if n.a=0∧n.b=0 then w else 0) else if n.op=13∨n.op=14 then (if n.b=0∧0≤n.a∧n.a≤127 then w else 0) else (if 0≤n.b∧n.b≤n.a∧n.a<w then n.a-n.b+1 else 0)
def E9 (op v w:Int):Int:=if op=10 then v+w else if 20<op∨v≠w then 0 else if 18≤op then 1 else w
def Ec (n:Nd) (v w:Int):Int:=if n.a≠0∨n.b≠0 then 0 else if n.op=10 then v+w else if v≠w then 0 else if n.op=18∨n.op=19∨n.op=20 then 1 else if 11≤n.op∧n.op≤17 then v else 0
def gd (op:Int):Bool:=decide (op=2) ||decide (op=9)
def uo (op:Int):Bool:=gd op ||decide (op=3) ||decide (op=4) ||decide (op=6) ||decide (op=13) ||decide (op=14)
def fJ (n:Nd):Bool:=(decide (n.op=1) ||(decide (n.hi=0)&&decide (n.lo=0)))&&(uo n.op ||decide (n.a=0))&&(gd n.op ||decide (n.b=0))
def cX (p:Lp) (act:Int) (st:List Int) (n:Nd):Option (Int×List Int):=
 if n.op≤6 then some (rH p act n,st) else match st with
 | []=>none
 |w::st=>if cG n.op=true then some (xi n w,st) else match st with
  | []=>none
  |v::st=>some (E9 n.op v w,st)
def cY (p:Lp) (act:Int) (st:List Int) (n:Nd):Option (List Int):=
 match cX p act st n with
 |none=>none
 |some (w,st)=>if w=n.w∧aj w=true∧fJ n=true then some (w::st) else none
def dC (p:Lp) (act:Int) (st:List Int) (n:Nd):Option (Int×List Int):=
 if 1≤n.op∧n.op≤6 then some (xh p act n,st) else if ¬(n.hi=0∧n.lo=0) then none else match st with
 | []=>none
 |w::st=>if cG n.op=true then some (qw n w,st) else match st with
  | []=>none
  |v::st=>some (Ec n v w,st)
def dL (p:Lp) (act:Int) (st:List Int) (n:Nd):Option (List Int):=
 match dC p act st n with
 |none=>none
 |some (w,st)=>if w=n.w∧aj w=true then some (w::st) else none
def bI (f:List Int→Nd→Option (List Int)):List Int→List Nd→Option (List Int)
 |st,[]=>some st
 |st,n::c=>match f st n with
  |none=>none
  |some st'=>bI f st' c
def rI:Option (List Int)→Option Int
 |some [w]=>some w
 |_=>none
def Cr (f:List Int→Nd→Option (List Int)) (c:List Nd):Option Int:=if 65536<c.length then none else rI (bI f [] c)
def fk (p:Lp) (act:Int) (c:List Nd):Option Int:=Cr (cY p act) c
def jm (p:Lp) (act:Int) (c:List Nd):Option Int:=Cr (dL p act) c
theorem jn {w w' nw:Int} {st:List Int} {A:Prop} [Decidable A] (h:(w=nw∧aj nw=true∧A)↔(w'=nw∧aj nw=true)):(if w=nw∧aj w=true∧A then some (w::st) else none)=(if w'=nw∧aj w'=true then some (w'::st) else none):=by
 by_cases h1:w=nw∧aj nw=true∧A
 ·obtain ⟨a,b⟩:=h.1 h1
  obtain ⟨c,d,e⟩:=h1
  subst c
  rw [if_pos ⟨rfl,d,e⟩,if_pos ⟨a,by rw [a];exact b⟩,a]
 ·rw [if_neg (fun g=>h1 ⟨g.1,by rw [←g.1];exact g.2⟩),if_neg (fun g=>h1 (h.2 ⟨g.1,by rw [←g.1];exact g.2⟩))]
theorem zU {w nw:Int} {st:List Int} {A:Prop} [Decidable A] (h:¬(w=nw∧aj nw=true∧A)):(if w=nw∧aj w=true∧A then some (w::st) else none)=none:=if_neg fun g=>h ⟨g.1,by rw [←g.1];exact g.2⟩
theorem xj {w nw:Int} {st:List Int} (h:¬(w=nw∧aj nw=true)):(if w=nw∧aj w=true then some (w::st) else none)=none:=if_neg fun g=>h ⟨g.1,by rw [←g.1];exact g.2⟩
theorem aA (w:Int):aj w=true↔1≤w∧w≤128:=by simp [aj]
theorem zV (p:Lp) (act:Int) (st:List Int) (n:Nd) (h:0≤n.op):cY p act st n=dL p act st n:=by
 obtain ⟨op,nw,a,b,hi,lo⟩:=n
 simp only at h
 unfold cY dL
 by_cases h6:op≤6
 ·by_cases h1:1≤op
  ·simp only [cX,dC,if_pos h6,if_pos (And.intro h1 h6)]
   refine jn ?_
   rcases (by omega:op=1∨op=2∨op=3∨op=4∨op=5∨op=6) with rfl|rfl|rfl|rfl|rfl|rfl<;>
    simp only [rH,xh,fJ,uo,gd,aA,Hl,HQ,decide_eq_true_eq,reduceCtorEq,Int.reduceEq,Int.reduceNe,if_true,if_false,or_false,or_true,false_or,true_or,true_and,and_true,false_and,ne_eq,not_true_eq_false,not_false_eq_true]
   ·generalize bN nw hi lo=F
    cases F<;>by_cases k3:b=0<;>by_cases k4:a=0<;>by_cases k5:1≤nw∧nw≤128<;>simp [*]<;>omega
   case inr.inr.inr.inr.inl=>simp only [eW,Int.reduceEq,if_true,if_false];by_cases k1:hi=0<;>by_cases k2:lo=0<;>by_cases k3:b=0<;>by_cases k4:a=0<;>simp [*]<;>omega
   all_goals (generalize eW p act _ a b=G;by_cases k1:hi=0<;>by_cases k2:lo=0<;>by_cases k3:b=0<;>by_cases k4:a=0<;>simp [*]<;>omega)
  ·have:op=0:=by omega
   subst this
   have hg:rH p act ⟨0,nw,a,b,hi,lo⟩=0:=by simp [rH,eW]
   simp only [cX,if_pos h6,hg]
   rw [zU (fun g=>by have:=(aA _).1 g.2.1;omega)]
   simp only [dC,if_neg (show ¬((1:Int)≤0∧(0:Int)≤6) by omega)]
   split
   ·rfl
   ·rename_i x e
    split at e
    ·cases e
    ·match st,e with
     | [],e=>cases e
     | [w],e=>simp [cG] at e
     |w::v::st,e=>
      simp only [cG,Int.reduceEq,decide_false,Bool.or_self,Hy,if_false,Option.some.injEq,Prod.mk.injEq] at e
      obtain ⟨rfl,rfl⟩:=e
      rw [xj (fun g=> ?_)]
      have:=(aA _).1 g.2
      have h2:=g.1
      simp only [Ec] at h2
      split at h2
      ·omega
      ·split at h2
       ·omega
       ·split at h2
        ·omega
        ·split at h2
         ·omega
         ·split at h2<;>omega
 ·simp only [cX,dC,if_neg h6,if_neg (show ¬(1≤op∧op≤6) by omega)]
  by_cases hv:hi=0∧lo=0
  ·rw [if_neg (not_not_intro hv)]
   obtain ⟨rfl,rfl⟩:=hv
   match st with
   | []=>rfl
   | [w]=>
    simp only
    by_cases ho:cG op=true
    ·simp only [if_pos ho]
     refine jn ?_
     simp only [cG,HQ,decide_eq_true_eq] at ho
     rcases (by omega:op=7∨op=8∨op=9∨op=13∨op=14) with rfl|rfl|rfl|rfl|rfl<;>
      simp only [xi,qw,fJ,uo,gd,aA,Hl,HQ,decide_eq_true_eq,reduceCtorEq,Int.reduceEq,Int.reduceNe,if_true,if_false,or_false,or_true,false_or,true_or,true_and,and_true,false_and,ne_eq,not_true_eq_false,not_false_eq_true]<;>
      (repeat' split)<;>omega
    ·simp only [if_neg ho]
   |w::v::st=>
    simp only
    by_cases ho:cG op=true
    ·simp only [if_pos ho]
     refine jn ?_
     simp only [cG,HQ,decide_eq_true_eq] at ho
     rcases (by omega:op=7∨op=8∨op=9∨op=13∨op=14) with rfl|rfl|rfl|rfl|rfl<;>
      simp only [xi,qw,fJ,uo,gd,aA,Hl,HQ,decide_eq_true_eq,reduceCtorEq,Int.reduceEq,Int.reduceNe,if_true,if_false,or_false,or_true,false_or,true_or,true_and,and_true,false_and,ne_eq,not_true_eq_false,not_false_eq_true]<;>
      (repeat' split)<;>omega
    ·simp only [if_neg ho]
     refine jn ?_
     simp only [cG,HQ,decide_eq_true_eq] at ho
     have e1:fJ ⟨op,nw,a,b,0,0⟩=(decide (a=0)&&decide (b=0)):=by
      have k1:uo op=false:=by simp [uo,gd];omega
      have k2:gd op=false:=by simp [gd];omega
      simp [fJ,k1,k2]
     rw [e1]
     simp only [E9,Ec,aA,Hl,decide_eq_true_eq]
     (repeat' split)<;>omega
  ·rw [if_pos hv]
   have e1:fJ ⟨op,nw,a,b,hi,lo⟩=false:=by
    have k1:decide (op=1)=false:=by simp;omega
    have k2:(decide (hi=0)&&decide (lo=0))=false:=by
     rw [Bool.eq_false_iff];intro g;simp at g;exact hv g
    simp [fJ,k1,k2]
   split
   ·rfl
   ·rw [e1];simp
def am (f:Nat→Bool):Nat→Bool
 |0=>true
 |k+1=>am f k&&f k
theorem aF (f:Nat→Bool) (n:Nat):am f n=true↔∀ i,i<n→f i=true:=by
 induction n with
 |zero=>simp [am]
 |succ n ih=>
  simp only [am,Hl,ih]
  constructor
  ·rintro ⟨h,h1⟩ i hi
   by_cases e:i=n
   ·subst e;exact h1
   ·exact h i (by omega)
  ·intro h;exact ⟨fun i hi=>h i (by omega),h n (by omega)⟩
theorem aN {f:Nat→Bool} {k n:Nat} (hk:k<n) (h:f k=false):am f n=false:=by
 rw [Bool.eq_false_iff];intro g
 have:=(aF f n).1 g k hk
 rw [h] at this;cases this
theorem eX {f g:Nat→Bool} {n:Nat} (h:∀ i,i<n→f i=g i):am f n=am g n:=by
 rw [Hr,aF,aF]
 exact ⟨fun a i hi=>by rw [←h i hi];exact a i hi,fun a i hi=>by rw [h i hi];exact a i hi⟩
def aK {α:Type} (f:α→Bool) (l:List α) (i:Nat):Bool:=match l[i]? with
 |some x=>f x
 |none=>false
theorem ag {α:Type} (f:α→Bool) {l:List α} {i:Nat} (h:i<l.length):aK f l i=f l[i]:=by simp [aK,h]
theorem fK {α:Type} (f:α→Bool) (l:List α):l.all f=am (aK f l) l.length:=by
 rw [Hr,aF,Hx]
 constructor
 ·intro h i hi;rw [ag f hi];exact h _ (Ho hi)
 ·intro h x hx
  obtain ⟨i,hi,rfl⟩:=Hw hx
  have:=h i hi
  rwa [ag f hi] at this
def ci {α β:Type} (f:α→β→Bool) (xs:List α) (ys:List β):Bool:=decide (xs.length=ys.length)&&am (fun i=>aK (fun x=>aK (f x) ys i) xs i) xs.length
def dD (p:Lp) (listed:List Int) (r:Rn):Bool:=match eG p.acts r.act with
 |none=>false
 |some a=>decide (r.act∈listed)&&ci (fun (x:Int×Int) (w:Int)=>bN w x.1 x.2) r.args a.params
def gg (p:Lp) (x:oF):Int×Bool:=
 if x.kind=1 then (rn ((eG p.heads x.a).getD []) x.b,dJ ((eG p.heads x.a).getD []).length x.b)
 else if x.kind=2 then (rn p.metas x.a,dJ p.metas.length x.a&&decide (x.b=0))
 else if x.kind=3 then (0,dJ p.tabs.length x.a&&decide (x.b=0))
 else if x.kind=6 then (0,dJ p.heads.length x.a&&(decide (x.b=0) ||decide (x.b=1)))
 else if x.kind=7 then (1,decide (x.a=0)&&decide (x.b=0))
 else if x.kind=5 then (9,decide (x.a=0)&&decide (x.b=0))
 else (0,(decide (x.kind=4) ||decide (x.kind=8))&&decide (x.a=0)&&decide (x.b=0))
def qx (x:oF) (i many:Nat):Bool:=if x.kind=7∨x.kind=8 then decide ((i:Int)<x.to)&&decide (x.to≤many) else decide (x.to=0)
def Ed (p:Lp) (act:Int) (w:Int) (e:List Nd):Bool:=if w=0 then e.isEmpty else if 0<w then decide (fk p act e=some w) else true
def ow (p:Lp) (act:Int) (w:Int) (e:List Nd):Bool:=if w=0 then e.isEmpty else decide (jm p act e=some w)
def eL (cd:Int→List Nd→Bool) (p:Lp) (act:Int) (many i:Nat) (x:oF):Bool:=(gg p x).2&& !(decide (0≤act)&&decide (x.kind=3))&&qx x i many&&cd (gg p x).1 x.e
def mL (cd:Int→List Nd→Bool) (p:Lp) (act:Int) (l:List oF):Bool:=decide (l.length≤65536)&&am (fun i=>aK (eL cd p act l.length i) l i) l.length
def fq (p:Lp) (act:Int) (l:List oF):Bool:=mL (Ed p act) p act l
def fs (p:Lp) (act:Int) (l:List oF):Bool:=mL (ow p act) p act l
def oG (l:List Int) (below:Nat):Bool:=am (fun i=>aK (fun x=>dJ below x&& !decide (aU l x<i)) l i) l.length
def oH (l:List Int) (below:Nat):Bool:=am (fun i=>aK (fun x=>dJ below x&& !decide (x∈l.take i)) l i) l.length
def ef (x:Pt) (w:Int):Bool:=bN w x.vh x.vl&&bN w x.mh x.ml&&(decide (aJ x.vh x.mh=x.vh)&&decide (aJ x.vl x.ml=x.vl))
def gJ (p:Lp) (to:Int):Bool:=decide (-2≤to)&&decide (to<p.steps.length)
def gz (f:List Nd→Option Int):List (List Nd)→Option (List Int)
 | []=>some []
 |c::l=>match f c with
  |none=>none
  |some w=>(gz f l).map (w:: ·)
def eI (p:Lp) (s:lI):Bool:=match gz (fk p (-1)) s.keys with
 |none=>false
 |some ws=>decide (s.keys.length≤4)&&decide (s.takes.length≤8)&&s.takes.all (dJ p.heads.length)&&gJ p s.to&&(if s.keys.length=0 then decide (s.brs.length=0) else
  decide (s.to=0)&&decide (1≤s.brs.length)&&decide (s.brs.length≤16)&&s.brs.all fun b=>gJ p b.to&&ci ef b.pats ws)
def Cs (p:Lp) (n k:Nat) (w:Int) (b:Br):Bool:=gJ p b.to&&decide (b.pats.length=n)&&aK (fun x=>ef x w) b.pats k
def mM (p:Lp) (s:lI) (k:Nat):Bool:=aK (fun c=>match jm p (-1) c with
 |none=>false
 |some w=>am (aK (Cs p s.keys.length k w) s.brs) s.brs.length) s.keys k
def eJ (p:Lp) (s:lI):Bool:=decide (s.takes.length≤8)&&decide (s.keys.length≤4)&&gJ p s.to&&am (aK (dJ p.heads.length) s.takes) s.takes.length&&(if s.keys.length=0 then decide (s.brs.length=0) else
  decide (s.to=0)&&decide (1≤s.brs.length)&&decide (s.brs.length≤16)&&am (mM p s) s.keys.length)
def fv (l:List Int):Nat:=(l.filter fun x=>decide (x=2)).length
def cZ (k:Int):Bool:=decide (1≤k)&&decide (k≤3)
def iO (p:Lp) (t:eF):Bool:=(gz (fk p (-1)) t.keys).isSome&&decide (t.keys.length≤4)&& !decide (t.keys.length=0)&&decide (t.kinds.length=t.keys.length)&&am (aK cZ t.kinds) t.kinds.length&&decide (fv t.kinds≤1)&&
 decide (1≤t.acts.length)&&decide (t.acts.length≤16)&&oG t.acts p.acts.length&&dD p t.acts t.run
def oI (p:Lp) (t:eF):Bool:=decide (1≤t.keys.length)&&decide (t.keys.length≤4)&&decide (t.kinds.length=t.keys.length)&&decide (1≤t.acts.length)&&decide (t.acts.length≤16)&&oH t.acts p.acts.length&&
 am (fun i=>aK (fun c=>(jm p (-1) c).isSome) t.keys i&&aK cZ t.kinds i) t.keys.length&&decide (fv t.kinds<2)&&dD p t.acts t.run
def jo:Int→List Int→Int
 |n,[]=>n
 |n,x::l=>jo (wrap64 (n+x)) l
def eh (l:List Int) (most:Nat):Bool:=decide (l.length≤most)&&l.all aj
def b8 (l:List Int):Bool:=decide (1≤l.length)&&eh l 16&&decide ((jo 0 l).tmod 8=0)&&decide (jo 0 l≤256)
def gP (p:Lp):Bool:=ci (fun (l:List Int) (n:List ByteArray)=>decide (l.length=n.length)) p.heads p.nf&&decide (p.nh.length=p.heads.length)&&decide (p.nm.length=p.metas.length)&&decide (p.na.length=p.acts.length)&&decide (p.nt.length=p.tabs.length)
def jp (s:lI):List Int:=(if s.keys.length=0 then [s.to] else [])++s.brs.map Br.to
def bk (l:List lI) (i:Int):List Int:=((eG l i).map jp).getD []
def up (l:List lI):Bool:=(bM (im (bk l) (l.length+1)) [] (eK l.length)).1
def oJ (l:List lI) (s:Int):Bool:=zn (bk l) s (l.length+1) [] [s]
def xk (p:Lp) (i:Nat) (a:qv):Bool:=eh a.params 8&&fq p i a.body
def zW (p:Lp) (i:Nat) (a:qv):Bool:=eh a.params 8&&fs p i a.body
def bW (p:Lp):Bool:=decide (p.heads.length≤8)&&decide (1≤p.steps.length)&&decide (p.steps.length≤16)&&decide (p.acts.length≤16)&&decide (p.tabs.length≤8)&&
 p.heads.all b8&&eh p.metas 16&&gP p&&oG p.emit p.heads.length&&am (fun i=>aK (xk p i) p.acts i) p.acts.length&&p.steps.all (eI p)&& !up p.steps&&p.tabs.all (iO p)&&fq p (-1) p.control
def iP (p:Lp):Bool:=decide (p.heads.length≤8)&&decide (p.nh.length=p.heads.length)&&decide (p.nf.length=p.heads.length)&&am (fun i=>aK b8 p.heads i&&aK (fun l=>aK (fun n=>decide (n.length=l.length)) p.nf i) p.heads i) p.heads.length
def iG (p:Lp):Bool:=iP p&&eh p.metas 16&&decide (p.nm.length=p.metas.length)&&decide (p.na.length=p.acts.length)&&decide (p.nt.length=p.tabs.length)&&
 decide (1≤p.steps.length)&&decide (p.steps.length≤16)&&decide (p.acts.length≤16)&&decide (p.tabs.length≤8)&&oH p.emit p.heads.length&&fs p (-1) p.control&&
 am (aK (eJ p) p.steps) p.steps.length&&am (fun i=> !oJ p.steps i) p.steps.length&&am (fun i=>aK (zW p i) p.acts i) p.acts.length&&am (aK (oI p) p.tabs) p.tabs.length
def uq (c:List Nd):Prop:=∀ n∈c,0≤n.op
structure DS (p:Lp):Prop where
 ctl:∀ x∈p.control,uq x.e
 act:∀ a∈p.acts,∀ x∈a.body,uq x.e
 stp:∀ s∈p.steps,∀ c∈s.keys,uq c
 tab:∀ t∈p.tabs,∀ c∈t.keys,uq c
theorem mN (p:Lp) (act:Int):∀ (c:List Nd) (st:List Int),uq c→bI (cY p act) st c=bI (dL p act) st c
 | [],_,_=>rfl
 |n::c,st,h=>by
  simp only [bI,zV p act st n (h n (by simp))]
  cases dL p act st n with
  |none=>rfl
  |some st'=>exact mN p act c st' fun m hm=>h m (by simp [hm])
theorem qy (p:Lp) (act:Int) (c:List Nd) (h:uq c):fk p act c=jm p act c:=by unfold fk jm Cr;rw [mN p act c [] h]
theorem zX {p:Lp} {act:Int} {st st':List Int} {n:Nd} (h:cY p act st n=some st') (hs:∀ x∈st,aj x=true):∀ x∈st',aj x=true:=by
 unfold cY at h
 cases hd:cX p act st n with
 |none=>rw [hd] at h;cases h
 |some r=>
  obtain ⟨w,s1⟩:=r
  rw [hd] at h
  simp only at h
  have h1:∀ x∈s1,x∈st:=by
   unfold cX at hd
   split at hd
   ·cases hd;exact fun x h=>h
   ·split at hd
    ·cases hd
    ·split at hd
     ·cases hd;exact fun x h=>by simp [h]
     ·split at hd
      ·cases hd
      ·cases hd;exact fun x h=>by simp [h]
  split at h
  ·rename_i hc
   injection h with h
   subst h
   intro x hx
   rcases HD.1 hx with rfl|hx
   ·exact hc.2.1
   ·exact hs x (h1 x hx)
  ·cases h
theorem mO {p:Lp} {act:Int}:∀ (c:List Nd) (st st':List Int),bI (cY p act) st c=some st'→(∀ x∈st,aj x=true)→∀ x∈st',aj x=true
 | [],st,st',h,hs=>by simp only [bI] at h;injection h with h;subst h;exact hs
 |n::c,st,st',h,hs=>by
  simp only [bI] at h
  cases hn:cY p act st n with
  |none=>rw [hn] at h;cases h
  |some s1=>rw [hn] at h;exact mO c s1 st' h (zX hn hs)
theorem vL {l:List Int} (h:l.all aj=true) (i:Int):0≤rn l i:=by
 unfold rn eG
 by_cases hi:0≤i
 ·rw [if_pos hi]
  cases hx:l[i.toNat]? with
  |none=>simp
  |some x=>
   have:=Hx.1 h x (List.mem_of_getElem? hx)
   rw [aA] at this
   simp;omega
 ·rw [if_neg hi];simp
theorem CJ {p:Lp} (h1:∀ l∈p.heads,l.all aj=true) (h2:p.metas.all aj=true) (x:oF):0≤(gg p x).1:=by
 unfold gg
 split
 ·refine vL ?_ _
  unfold eG
  split
  ·cases hx:p.heads[x.a.toNat]? with
   |none=>simp
   |some l=>exact h1 l (List.mem_of_getElem? hx)
  ·simp
 ·split
  ·exact vL h2 _
  ·(repeat' split)<;>simp
theorem vM {p:Lp} (h1:∀ l∈p.heads,l.all aj=true) (h2:p.metas.all aj=true) (act:Int) (l:List oF) (h:∀ x∈l,uq x.e):fq p act l=fs p act l:=by
 unfold fq fs mL
 congr 1
 refine eX fun i hi=> ?_
 rw [ag _ hi,ag _ hi]
 unfold eL
 congr 1
 have hw:=CJ h1 h2 l[i]
 unfold Ed ow
 rw [qy p act _ (h _ (Ho hi))]
 split
 ·rfl
 ·rw [if_pos (by omega)]
theorem zY (l:List Int) (n:Nat):oG l n=oH l n:=by
 unfold oG oH
 refine eX fun i hi=> ?_
 rw [ag _ hi,ag _ hi]
 congr 2
 rw [Hr,decide_eq_true_eq,decide_eq_true_eq]
 have h1:=mE hi
 have h2:=rA hi
 constructor
 ·intro h
  by_cases hm:l[i]∈l.take i
  ·exact hm
  ·have:=h1.2 hm;omega
 ·intro h
  have:¬aU l l[i]=(i:Int):=fun e=>h1.1 e h
  omega
theorem mP {f:List Nd→Option Int}:∀ {l:List (List Nd)} {ws:List Int},gz f l=some ws→ws.length=l.length∧∀ i (h:i<l.length) (h':i<ws.length),f l[i]=some ws[i]
 | [],ws,h=>by simp only [gz] at h;injection h with h;subst h;simp
 |c::l,ws,h=>by
  simp only [gz] at h
  cases hc:f c with
  |none=>rw [hc] at h;cases h
  |some w=>
   rw [hc] at h
   simp only at h
   cases hr:gz f l with
   |none=>rw [hr] at h;cases h
   |some vs=>
    rw [hr] at h
    simp only [Option.map_some,Option.some.injEq] at h
    subst h
    obtain ⟨h1,h2⟩:=mP hr
    refine ⟨by simp [h1],fun i hi hi'=> ?_⟩
    cases i with
    |zero=>exact hc
    |succ i=>exact h2 i (by simpa using hi) (by simpa using hi')
theorem mQ {f:List Nd→Option Int}:∀ {l:List (List Nd)},gz f l=none→∃ i,∃ h:i<l.length,f l[i]=none
 | [],h=>by simp [gz] at h
 |c::l,h=>by
  simp only [gz] at h
  cases hc:f c with
  |none=>exact ⟨0,by simp,hc⟩
  |some w=>
   rw [hc] at h
   simp only at h
   cases hr:gz f l with
   |none=>obtain ⟨i,hi,h2⟩:=mQ hr;exact ⟨i+1,by simpa using hi,by simpa using h2⟩
   |some vs=>rw [hr] at h;cases h
theorem lV {α β:Type} (f:α→β→Bool) (xs:List α) (ys:List β):ci f xs ys=true↔xs.length=ys.length∧∀ i (h:i<xs.length) (h':i<ys.length),f xs[i] ys[i]=true:=by
 unfold ci
 rw [Hl,decide_eq_true_eq,aF]
 constructor
 ·rintro ⟨h1,h2⟩
  refine ⟨h1,fun i h h'=> ?_⟩
  have:=h2 i h
  rwa [ag _ h,ag _ h'] at this
 ·rintro ⟨h1,h2⟩
  refine ⟨h1,fun i h=> ?_⟩
  rw [ag _ h,ag _ (by omega)]
  exact h2 i h (by omega)
theorem CK (p:Lp) (s:lI) (h:∀ c∈s.keys,uq c):eI p s=eJ p s:=by
 have hw:∀ i (hi:i<s.keys.length),fk p (-1) s.keys[i]=jm p (-1) s.keys[i]:=fun i hi=>qy p (-1) _ (h _ (Ho hi))
 unfold eI eJ
 cases hk:gz (fk p (-1)) s.keys with
 |none=>
  obtain ⟨i,hi,hn⟩:=mQ hk
  have h0:¬s.keys.length=0:=by omega
  have:am (mM p s) s.keys.length=false:=aN hi (by unfold mM;rw [ag _ hi,←hw i hi,hn])
  simp only [if_neg h0,this,Bool.and_false]
 |some ws=>
  obtain ⟨hl,hws⟩:=mP hk
  simp only
  by_cases h0:s.keys.length=0
  ·simp only [if_pos h0,fK]
   cases decide (s.keys.length≤4)<;>cases decide (s.takes.length≤8)<;>cases gJ p s.to<;>simp
  ·simp only [if_neg h0,fK]
   have hm:am (aK (fun b=>gJ p b.to&&ci ef b.pats ws) s.brs) s.brs.length=true↔∀ j,∀ h:j<s.brs.length,gJ p s.brs[j].to=true∧ci ef s.brs[j].pats ws=true:=by
    rw [aF]
    refine ⟨fun g j hj=> ?_,fun g j hj=> ?_⟩
    ·have:=g j hj
     rwa [ag _ hj,Hl] at this
    ·rw [ag _ hj,Hl];exact g j hj
   have hr:am (mM p s) s.keys.length=true↔∀ k,∀ _:k<s.keys.length,∀ hk':k<ws.length,∀ j,∀ h:j<s.brs.length,Cs p s.keys.length k ws[k] s.brs[j]=true:=by
    rw [aF]
    refine ⟨fun g k hk1 hk2 j hj=> ?_,fun g k hk1=> ?_⟩
    ·have:=g k hk1
     unfold mM at this
     rw [ag _ hk1,←hw k hk1,hws k hk1 hk2] at this
     simp only [aF] at this
     have:=this j hj
     rwa [ag _ hj] at this
    ·unfold mM
     rw [ag _ hk1,←hw k hk1,hws k hk1 (by omega)]
     simp only [aF]
     intro j hj
     rw [ag _ hj]
     exact g k hk1 (by omega) j hj
   have hb:1≤s.brs.length→(am (aK (fun b=>gJ p b.to&&ci ef b.pats ws) s.brs) s.brs.length=am (mM p s) s.keys.length):=fun _=>by
    rw [Hr,hm,hr]
    constructor
    ·intro g k hk1 hk2 j hj
     obtain ⟨g1,g2⟩:=g j hj
     rw [lV] at g2
     unfold Cs
     have hkp:k<s.brs[j].pats.length:=by omega
     rw [g1,ag _ hkp,g2.2 k hkp hk2]
     simp;omega
    ·intro g j hj
     have g0:=g 0 (by omega) (by omega) j hj
     unfold Cs at g0
     simp only [Hl,decide_eq_true_eq] at g0
     refine ⟨g0.1.1,?_⟩
     rw [lV]
     refine ⟨by omega,fun i hi hi'=> ?_⟩
     have gi:=g i (by omega) hi' j hj
     unfold Cs at gi
     rw [ag _ hi] at gi
     simp only [Hl] at gi
     exact gi.2
   by_cases hb1:1≤s.brs.length
   ·rw [hb hb1]
    cases decide (s.keys.length≤4)<;>cases decide (s.takes.length≤8)<;>cases gJ p s.to<;>simp
   ·simp only [decide_eq_false hb1,Hg,Bool.and_false]
theorem Ee (p:Lp) (t:eF) (h:∀ c∈t.keys,uq c):iO p t=oI p t:=by
 have hw:∀ i (hi:i<t.keys.length),fk p (-1) t.keys[i]=jm p (-1) t.keys[i]:=fun i hi=>qy p (-1) _ (h _ (Ho hi))
 rw [Hr]
 unfold iO oI
 rw [zY]
 have hk:(gz (fk p (-1)) t.keys).isSome=true↔∀ i,∀ hi:i<t.keys.length,(jm p (-1) t.keys[i]).isSome=true:=by
  cases hr:gz (fk p (-1)) t.keys with
  |none=>
   obtain ⟨i,hi,hn⟩:=mQ hr
   simp only [Option.isSome_none,Hy,false_iff]
   intro g
   have:=g i hi
   rw [←hw i hi,hn] at this;cases this
  |some ws=>
   obtain ⟨hl,hws⟩:=mP hr
   simp only [Option.isSome_some,true_iff]
   intro i hi
   rw [←hw i hi,hws i hi (by omega)];rfl
 simp only [Hl,hk,aF,decide_eq_true_eq,Bool.not_eq_true',decide_eq_false_iff_not]
 constructor
 ·rintro ⟨⟨⟨⟨⟨⟨⟨⟨⟨a1,a2⟩,a3⟩,a4⟩,a5⟩,a6⟩,a7⟩,a8⟩,a9⟩,a10⟩
  exact ⟨⟨⟨⟨⟨⟨⟨⟨by omega,a2⟩,a4⟩,a7⟩,a8⟩,a9⟩,fun i hi=>⟨by rw [ag _ hi];exact a1 i hi,a5 i (by omega)⟩⟩,by omega⟩,a10⟩
 ·rintro ⟨⟨⟨⟨⟨⟨⟨⟨a1,a2⟩,a3⟩,a4⟩,a5⟩,a6⟩,a7⟩,a8⟩,a9⟩
  refine ⟨⟨⟨⟨⟨⟨⟨⟨⟨fun i hi=> ?_,a2⟩,by omega⟩,a3⟩,fun i hi=>(a7 i (by omega)).2⟩,by omega⟩,a4⟩,a5⟩,a6⟩,a9⟩
  have:=(a7 i hi).1
  rwa [ag _ hi] at this
theorem gh {α:Type} {l:List α} {i:Int} {x:α} (h:eG l i=some x):x∈l:=by
 unfold eG at h
 split at h
 ·exact List.mem_of_getElem? h
 ·cases h
theorem rJ (p:Lp) (h:p.steps.all (eI p)=true):∀ i,∀ t∈bk p.steps i,t<p.steps.length:=by
 intro i t ht
 unfold bk at ht
 cases hn:eG p.steps i with
 |none=>rw [hn] at ht;simp at ht
 |some s=>
  rw [hn] at ht
  simp only [Option.map_some,H9,jp] at ht
  have hs:=Hx.1 h s (gh hn)
  unfold eI at hs
  cases hk:gz (fk p (-1)) s.keys with
  |none=>rw [hk] at hs;cases hs
  |some ws=>
   rw [hk] at hs
   simp only [Hl] at hs
   obtain ⟨⟨_,h1⟩,h2⟩:=hs
   simp only [gJ,Hl,decide_eq_true_eq] at h1
   rcases H0.1 ht with ht|ht
   ·split at ht
    ·simp at ht;omega
    ·simp at ht
   ·obtain ⟨b,hb,rfl⟩:=HN.1 ht
    split at h2
    ·have:s.brs= []:=H8 (of_decide_eq_true h2)
     rw [this] at hb;simp at hb
    ·simp only [Hl] at h2
     have:=Hx.1 h2.2 b hb
     simp only [Hl,gJ,decide_eq_true_eq] at this
     exact this.1.2
theorem zZ (p:Lp) (h:DS p):bW p=iG p:=by
 have hN:(p.heads.all b8&&gP p)=true↔(∀ i,∀ hi:i<p.heads.length,b8 p.heads[i]=true)∧(p.heads.length=p.nf.length∧∀ i,∀ hi:i<p.heads.length,∀ hi':i<p.nf.length,p.heads[i].length=p.nf[i].length)∧p.nh.length=p.heads.length∧p.nm.length=p.metas.length∧p.na.length=p.acts.length∧p.nt.length=p.tabs.length:=by
  unfold gP
  simp only [Hl,lV,decide_eq_true_eq,fK,aF]
  constructor
  ·rintro ⟨a,⟨⟨⟨⟨b,c⟩,d⟩,e⟩,f⟩⟩
   exact ⟨fun i hi=>by have:=a i hi;rwa [ag _ hi] at this,b,c,d,e,f⟩
  ·rintro ⟨a,b,c,d,e,f⟩
   exact ⟨fun i hi=>by rw [ag _ hi];exact a i hi,⟨⟨⟨⟨b,c⟩,d⟩,e⟩,f⟩⟩
 have hH:iP p=true↔p.heads.length≤8∧p.nh.length=p.heads.length∧p.nf.length=p.heads.length∧(∀ i,∀ hi:i<p.heads.length,b8 p.heads[i]=true)∧(∀ i,∀ hi:i<p.heads.length,∀ hi':i<p.nf.length,p.heads[i].length=p.nf[i].length):=by
  unfold iP
  simp only [Hl,decide_eq_true_eq,aF]
  constructor
  ·rintro ⟨⟨⟨a,b⟩,c⟩,d⟩
   refine ⟨a,b,c,fun i hi=> ?_,fun i hi hi'=> ?_⟩
   ·have:=(d i hi).1;rwa [ag _ hi] at this
   ·have:=(d i hi).2;rw [ag _ hi,ag _ hi',decide_eq_true_eq] at this;exact this.symm
  ·rintro ⟨a,b,c,d,e⟩
   refine ⟨⟨⟨a,b⟩,c⟩,fun i hi=>⟨by rw [ag _ hi];exact d i hi,?_⟩⟩
   rw [ag _ hi,ag _ (by omega),decide_eq_true_eq];exact (e i hi (by omega)).symm
 have hhd:(∀ i,∀ hi:i<p.heads.length,b8 p.heads[i]=true)→∀ l∈p.heads,l.all aj=true:=fun g l hl=>by
  obtain ⟨i,hi,rfl⟩:=Hw hl
  have:=g i hi
  simp only [b8,eh,Hl] at this
  exact this.1.1.2.2
 have hmt:eh p.metas 16=true→p.metas.all aj=true:=fun g=>by simp only [eh,Hl] at g;exact g.2
 have hcore:(∀ l∈p.heads,l.all aj=true)→p.metas.all aj=true→(fq p (-1) p.control=fs p (-1) p.control)∧(am (fun i=>aK (xk p i) p.acts i) p.acts.length=am (fun i=>aK (zW p i) p.acts i) p.acts.length):=fun g1 g2=>⟨vM g1 g2 _ _ h.ctl,eX fun i hi=>by
  rw [ag _ hi,ag _ hi];unfold xk zW;rw [vM g1 g2 _ _ (h.act _ (Ho hi))]⟩
 have hst:p.steps.all (eI p)=am (aK (eJ p) p.steps) p.steps.length:=by
  rw [fK]
  exact eX fun i hi=>by rw [ag _ hi,ag _ hi,CK p _ (h.stp _ (Ho hi))]
 have htb:p.tabs.all (iO p)=am (aK (oI p) p.tabs) p.tabs.length:=by
  rw [fK]
  exact eX fun i hi=>by rw [ag _ hi,ag _ hi,Ee p _ (h.tab _ (Ho hi))]
 have hcy:p.steps.all (eI p)=true→((!up p.steps)=am (fun i=> !oJ p.steps i) p.steps.length):=fun g=>by
  unfold up oJ
  rw [zT (rJ p g),Hr,aF,Bool.not_eq_true',List.any_eq_false]
  constructor
  ·intro k i hi
   have:=k (i:Int) (by simp only [eK,HN,HO];exact ⟨i,hi,rfl⟩)
   simpa using this
  ·intro k x hx
   simp only [eK,HN,HO] at hx
   obtain ⟨i,hi,rfl⟩:=hx
   simpa using k i hi
 rw [Hr]
 unfold bW iG
 rw [zY,←hst,←htb]
 constructor
 ·intro g
  simp only [Hl,decide_eq_true_eq] at g
  obtain ⟨⟨⟨⟨⟨⟨⟨⟨⟨⟨⟨⟨⟨a1,a2⟩,a3⟩,a4⟩,a5⟩,a6⟩,a7⟩,a8⟩,a9⟩,a10⟩,a11⟩,a12⟩,a13⟩,a14⟩:=g
  obtain ⟨b1,b2,b3,b4,b5,b6⟩:=hN.1 (by rw [a6,a8];rfl)
  obtain ⟨c1,c2⟩:=hcore (hhd b1) (hmt a7)
  simp only [Hl,decide_eq_true_eq,hH]
  rw [←c1,←c2,←hcy a11]
  exact ⟨⟨⟨⟨⟨⟨⟨⟨⟨⟨⟨⟨⟨⟨⟨a1,b3,b2.1.symm,b1,b2.2⟩,a7⟩,b4⟩,b5⟩,b6⟩,a2⟩,a3⟩,a4⟩,a5⟩,a9⟩,a14⟩,a11⟩,a12⟩,a10⟩,a13⟩
 ·intro g
  simp only [Hl,decide_eq_true_eq,hH] at g
  obtain ⟨⟨⟨⟨⟨⟨⟨⟨⟨⟨⟨⟨⟨⟨⟨a1,b3,b2,b1,b7⟩,a7⟩,b4⟩,b5⟩,b6⟩,a2⟩,a3⟩,a4⟩,a5⟩,a9⟩,a14⟩,a11⟩,a12⟩,a10⟩,a13⟩:=g
  obtain ⟨c1,c2⟩:=hcore (hhd b1) (hmt a7)
  have hn:=hN.2 ⟨b1,⟨b2.symm,b7⟩,b3,b4,b5,b6⟩
  rw [Hl] at hn
  simp only [Hl,decide_eq_true_eq]
  rw [c1,c2,hcy a11]
  exact ⟨⟨⟨⟨⟨⟨⟨⟨⟨⟨⟨⟨⟨a1,a2⟩,a3⟩,a4⟩,a5⟩,hn.1⟩,a7⟩,hn.2⟩,a9⟩,a10⟩,a11⟩,a12⟩,a13⟩,a14⟩
end Go.Proofs.YtiebolhmdhdagaaGreatDoor

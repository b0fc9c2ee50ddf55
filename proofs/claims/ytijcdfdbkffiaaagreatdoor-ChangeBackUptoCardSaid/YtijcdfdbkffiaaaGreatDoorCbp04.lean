import Derived.Test.YtijcdfdbkffiaaaGreatDoorCbp03
set_option linter.all false
set_option maxHeartbeats 4000000
set_option maxRecDepth 100000
open Go.Proofs.Tryz
namespace Go.Proofs.YtijcdfdbkffiaaaGreatDoor
open _root_.Nat renaming lt_of_lt_of_le→Hr, le_refl→Ht, le_trans→Hw, zero_le→Hz, le_of_lt→HL, pow_le_pow_right→Ii
open _root_.Go.RowKit.Below renaming refl→Hs
open _root_.Bool renaming and_eq_true→Hy, eq_iff_iff→HF, or_eq_true→HS
open _root_.List renaming getElem?_toArray→HB, getElem?_cons_zero→HC, getElem?_cons_succ→HD, length_cons→HN, length_drop→HR, all_eq_true→HT, mem_cons→HU, range→HX, length_pos_iff→Ij
open _root_.Array renaming getElem?_eq_some_iff→Ir, getElem?_setIfInBounds→Iv
open Go.RowKit
section
open Go.Lib
structure Tk where
 kind:Nat
 s:List UInt8
 w:Nat
 n:Nat
 pl:Nat
def nd (l:List UInt8):Nat:=l.foldl (fun a c=>a*10+(c.toNat-48)) 0
def io (c:UInt8):Bool:=dt (c.toNat:Nat)
def zD (w:Nat) (wide:Bool):Except Int Nat→Except Int (Nat×Nat)
 | .error e=>.error e
 | .ok n=>if wide&& !decide (n<2 ^ w) then .error 5 else .ok (w,n)
def qx (w:Nat) (wide:Bool) (l:List UInt8):Except Int (Nat×Nat):=zD w wide (eK l)
def ng (l:List UInt8):Except Int (Nat×Nat):=
 let i:=indexByte l 119
 if 0≤i then
  let a:=l.take i.toNat
  if a.all io&&decide (a.length≤3) then
   if nd a<1∨128<nd a then .error 10 else qx (nd a) true (l.drop (i.toNat+1))
  else .error 4
 else qx 0 false l
def f9 (l:List UInt8):Except Int (Nat×List UInt8×Nat×Nat):=
 let w:=l.take (bA l)
 if w= [] then (if aK l= [] then .error 4 else .ok (3,aK l,0,0))
 else if io (w.headD 0) then
  match ng w with
  | .error e=>.error e
  | .ok x=>.ok (2,w,x.1,x.2)
 else if 16<w.length then .error 3 else .ok (1,w,0,0)
def ip:Nat→Nat→List UInt8→Except (Int×Nat) (List Tk)
 |0,_,_=>.ok []
 |fuel+1,at_,l=>
  let g:=dq false l
  if l.drop g= [] then .ok [⟨0,[],0,0,at_+g⟩]
  else match f9 (l.drop g) with
   | .error e=>.error (e,at_+g)
   | .ok x=>match ip fuel (at_+g+x.2.1.length) ((l.drop g).drop x.2.1.length) with
    | .error e=>.error e
    | .ok r=>.ok (⟨x.1,x.2.1,x.2.2.1,x.2.2.2,at_+g⟩::r)
def iq (l:List UInt8):Except (Int×Nat) (List Tk):=if 65536<l.length then .error (3,0) else ip (l.length+1) 0 l
theorem nj (l:List UInt8) (c:UInt8):indexByte l c= -1∨∃ n:Nat,indexByte l c=n∧n<l.length:=by
 induction l with
 |nil=>exact .inl rfl
 |cons b l ih=>
  unfold indexByte
  by_cases hb:(b==c)=true
  ·rw [if_pos hb];exact .inr ⟨0,rfl,by simp⟩
  ·rw [if_neg hb]
   rcases ih with ih|⟨n,h1,h2⟩
   ·rw [ih];exact .inl rfl
   ·rw [h1]
    have:((n:Int)== -1)=false:=by rw [beq_eq_false_iff_ne];omega
    rw [if_neg (by rw [this];simp)]
    exact .inr ⟨n+1,by omega,by simp;omega⟩
theorem Dw (l:List UInt8):cut l [119]=if 0≤indexByte l 119 then (l.take (indexByte l 119).toNat,l.drop ((indexByte l 119).toNat+1),true) else (l,[],false):=by
 unfold cut
 rw [Go.Lib.index_one]
 rfl
theorem hU:∀ (l:List UInt8) (acc:Nat),l.all io=true→(acc+1)*10 ^ l.length≤1000→parseUintM 65535 acc l=.ok (l.foldl (fun a c=>a*10+(c.toNat-48)) acc)∧l.foldl (fun a c=>a*10+(c.toNat-48)) acc<(acc+1)*10 ^ l.length
 | [],acc,_,h=>⟨rfl,by simp⟩
 |c::r,acc,h,hk=>by
  simp only [List.all_cons,Hy] at h
  have hd:48≤c.toNat∧c.toNat≤57:=by
   have:=h.1
   unfold io dt at this
   rw [decide_eq_true_eq] at this
   omega
  have hp:0<10 ^ r.length:=Nat.pow_pos (by decide)
  have hstep:acc*10+(c.toNat-48)+1≤(acc+1)*10:=by omega
  have hle:(acc*10+(c.toNat-48)+1)*10 ^ r.length≤(acc+1)*10 ^ (c::r).length:=by
   rw [HN,Nat.pow_succ,Nat.mul_comm (10 ^ r.length) 10,←Nat.mul_assoc]
   exact Nat.mul_le_mul_right _ hstep
  have hb:acc*10+(c.toNat-48)+1≤(acc*10+(c.toNat-48)+1)*10 ^ r.length:=Nat.le_mul_of_pos_right _ hp
  have ih:=hU r (acc*10+(c.toNat-48)) h.2 (Hw hle hk)
  refine ⟨?_,Hr ih.2 hle⟩
  unfold parseUintM
  rw [if_pos hd,if_neg (by omega),if_neg (by omega),ih.1]
  rfl
theorem lP:∀ (l:List UInt8) (acc:Nat),l.all io=false→l.length≤3→∀ u,parseUintM 65535 acc l≠ .ok u
 | [],_,h,_,_=>by simp at h
 |c::r,acc,h,hk,u=>by
  unfold parseUintM
  by_cases hd:48≤c.toNat∧c.toNat≤57
  ·rw [if_pos hd]
   split
   ·simp
   ·split
    ·simp
    ·refine lP r _ ?_ (by simp at hk;omega) u
     have hc:io c=true:=by unfold io dt;rw [decide_eq_true_eq];omega
     simpa [hc] using h
  ·rw [if_neg hd];simp
theorem nk {l:List UInt8} (h0:l≠ []) (h:l.all io=true) (hk:l.length≤3):parseUintB 16 l=.ok (nd l)∧nd l<1000:=by
 have hp:10 ^ l.length≤1000:=Ii (n:=10) (by decide) hk
 have:=hU l 0 h (by omega)
 refine ⟨?_,by unfold nd;omega⟩
 unfold parseUintB
 rw [if_neg h0]
 exact this.1
theorem s7 {l:List UInt8} (h:l.all io=false) (hk:l.length≤3) (u:Nat):parseUintB 16 l≠ .ok u:=by
 unfold parseUintB
 split
 ·simp
 ·exact lP l 0 h hk u
end
section
open Go.Lib
theorem gz:∀ (b:Bool) (l:List UInt8),dq false (l.drop (dq b l))=0
 |_,[]=>by simp [dq]
 |false,c::r=>by
  have h1:=gz false r
  have h2:=gz true r
  simp only [dq]
  split
  ·simpa using h1
  ·split
   ·simpa using h2
   ·simp [dq, *]
 |true,c::r=>by
  have h1:=gz false r
  have h2:=gz true r
  simp only [dq]
  split
  ·simpa using h1
  ·simpa using h2
theorem fV (l:List UInt8):∀ ms:List (List UInt8),aL ms l<+:l
 | []=>by
  unfold aL
  split
  ·exact List.take_prefix _ _
  ·exact List.nil_prefix
 |m::r=>by
  unfold aL
  split
  ·rename_i h
   exact List.isPrefixOf_iff_prefix.1 h
  ·exact fV l r
theorem jO (l y:List UInt8) (hy:∀ c t,y=c::t→pU c=true):∀ ms:List (List UInt8),(∀ q∈ms,∀ c∈q,pU c=false)→aL ms l≠ []→aL ms (aL ms l++y)=aL ms l
 | [],_,h=>by
  cases l with
  |nil=>simp [aL] at h
  |cons c t=>
   have e:aL [] (c::t)= [c]:=by
    unfold aL at h ⊢
    by_cases hk:0≤indexByte dN ((c::t).headD 0)
    ·rw [if_pos hk];rfl
    ·rw [if_neg hk] at h;exact absurd rfl h
   rw [e]
   unfold aL at e ⊢
   by_cases hk:0≤indexByte dN ((c::t).headD 0)
   ·rw [if_pos (by simpa using hk)];rfl
   ·rw [if_neg hk] at e;cases e
 |m::r,hq,h=>by
  have hr:=fV l r
  by_cases hp:hasPrefix l m=true
  ·have e:aL (m::r) l=m:=by rw [aL,if_pos hp]
   rw [e,aL,if_pos (show hasPrefix (m++y) m=true from List.isPrefixOf_iff_prefix.2 (List.prefix_append _ _))]
  ·have e:aL (m::r) l=aL r l:=by rw [aL,if_neg hp]
   rw [e] at h ⊢
   have ih:=jO l y hy r (fun q hm=>hq q (List.mem_cons_of_mem _ hm)) h
   rw [aL,if_neg,ih]
   intro hm
   have hm':m<+:aL r l++y:=List.isPrefixOf_iff_prefix.1 hm
   by_cases hlen:m.length≤(aL r l).length
   ·exact hp (List.isPrefixOf_iff_prefix.2 ((List.prefix_of_prefix_length_le hm' (List.prefix_append _ _) hlen).trans hr))
   ·obtain ⟨u,hu⟩:=List.prefix_of_prefix_length_le (List.prefix_append (aL r l) y) hm' (by omega)
    have hu2:u<+:y:=by
     rw [←hu] at hm'
     exact (List.prefix_append_right_inj _).1 hm'
    cases u with
    |nil=>rw [List.append_nil] at hu;rw [hu] at hlen;omega
    |cons c t=>
     cases y with
     |nil=>simp at hu2
     |cons c' t'=>
      have hc:c=c':=by have:=hu2;rw [List.cons_prefix_cons] at this;exact this.1
      have:=hq m List.mem_cons_self c (by rw [←hu];simp)
      rw [hc,hy c' t' rfl] at this
      cases this
theorem ef (l:List UInt8):l.take (bA l)=l.takeWhile fun c=>bP c.toNat:=by
 have:=List.takeWhile_prefix (fun c:UInt8=>bP c.toNat) (l:=l)
 exact (List.prefix_iff_eq_take.1 this).symm
theorem ta {c:UInt8} (h:pU c=true):bP (c.toNat:Nat)=false:=by
 rw [lO] at h
 cases hw:bP (c.toNat:Nat) with
 |false=>rfl
 |true=>
  unfold bP dt kx at hw
  simp only [HS,decide_eq_true_eq] at hw
  omega
theorem td {l:List UInt8} {x:Nat×List UInt8×Nat×Nat} (h:f9 l=.ok x) (hg:dq false l=0) (c0:UInt8) (t0:List UInt8) (hc:pU c0=true):
  f9 (x.2.1++c0::t0)=.ok x∧dq false (x.2.1++c0::t0)=0∧x.2.1<+:l∧x.2.1≠ []:=by
 have hy:∀ c t,c0::t0=c::t→pU c=true:=fun c t e=>by injection e with e1 _;rw [←e1];exact hc
 have hnw:=ta hc
 have hpre:x.2.1<+:l∧x.2.1≠ []:=by
  unfold f9 at h
  simp only at h
  split at h
  ·split at h
   ·cases h
   ·rename_i hm
    injection h with h
    rw [←h]
    exact ⟨fV l aD,hm⟩
  ·rename_i hw
   split at h
   ·split at h
    ·cases h
    ·injection h with h
     rw [←h]
     exact ⟨List.take_prefix _ _,hw⟩
   ·split at h
    ·cases h
    ·injection h with h
     rw [←h]
     exact ⟨List.take_prefix _ _,hw⟩
 refine ⟨?_,?_,hpre⟩
 ·unfold f9 at h
  simp only at h
  split at h
  ·rename_i hw
   split at h
   ·cases h
   ·rename_i hm
    injection h with h
    have hx:x.2.1=aK l:=by rw [←h]
    have hz:bA (x.2.1++c0::t0)=0:=by
     obtain ⟨u,hu⟩:=hpre.1
     rw [ef] at hw
     match hxx:x.2.1,hpre.2 with
     |a::b,_=>
      rw [hxx] at hu
      rw [←hu] at hw
      unfold bA
      simp only [List.cons_append,List.takeWhile_cons] at hw ⊢
      split at hw
      ·cases hw
      ·rename_i h2;rw [if_neg h2];rfl
    have ha:=jO l (c0::t0) hy aD (by decide) hm
    unfold f9
    simp only [hz,List.take_zero,if_true]
    rw [hx]
    show (if aK (aK l++c0::t0)= [] then _ else _)=_
    rw [show aK (aK l++c0::t0)=aK l from ha,if_neg hm,h]
  ·rename_i hw
   have hx:x.2.1=l.take (bA l):=by
    split at h
    ·split at h
     ·cases h
     ·injection h with h;rw [←h]
    ·split at h
     ·cases h
     ·injection h with h;rw [←h]
   have ht:(x.2.1++c0::t0).take (bA (x.2.1++c0::t0))=l.take (bA l):=by
    rw [ef,hx,ef,List.takeWhile_append_of_pos (fun c hc=>(HT.1 List.all_takeWhile) c hc),List.takeWhile_cons,if_neg (by rw [hnw];decide),List.append_nil]
   unfold f9
   simp only [ht]
   rw [if_neg hw]
   exact h
 ·obtain ⟨u,hu⟩:=hpre.1
  match hxx:x.2.1,hpre.2 with
  |a::b,_=>
   rw [hxx] at hu
   rw [←hu] at hg
   simp only [List.cons_append,dq] at hg ⊢
   split at hg
   ·omega
   ·rename_i hws
    split at hg
    ·omega
    ·rename_i hcm
     rw [if_neg hws,if_neg]
     rintro ⟨h1,h2⟩
     apply hcm
     refine ⟨h1,?_⟩
     cases b with
     |nil=>
      simp at h2
      rw [h2] at hc
      exact absurd hc (by decide)
     |cons b1 b2=>simpa using h2
def qy:Nat→List UInt8
 |0=> [32]
 |1=> [10]
 |2=> [9,47,47,32,99,10]
 |_=> [32,47,47,32,10,10]
theorem wg (i:Nat):∃ c t,qy i=c::t∧pU c=true:=by
 match i with
 |0=>exact ⟨_,_,rfl,rfl⟩
 |1=>exact ⟨_,_,rfl,rfl⟩
 |2=>exact ⟨_,_,rfl,rfl⟩
 |i+3=>exact ⟨_,_,rfl,rfl⟩
theorem zE (i:Nat):(qy i).length≤6:=by
 match i with
 |0=>decide
 |1=>decide
 |2=>decide
 |i+3=>exact Ht _
end
section
open Go.Lib
theorem lQ (i:Nat) (L:List UInt8):∀ (fu k:Nat) (l:List UInt8) (r:List Tk),l.length<fu→L.drop k=l→k+l.length=L.length→ip fu k l=.ok r→
  r≠ []∧(∀ j (h:j<r.length),(j+1=r.length→r[j].kind=0)∧r[j].pl≤L.length∧r[j].s<+:L.drop r[j].pl)∧r.length≤l.length+1∧(join (r.map (·.s)) (qy i)).length+6≤l.length+6*r.length∧r.length≤(join (r.map (·.s)) (qy i)).length+1
 |0,_,l,_,hf,_,_,_=>absurd hf (by omega)
 |fu+1,k,l,r,hf,hd,hk,h=>by
  have hgl:=jx false l
  rw [ip] at h
  split at h
  ·injection h with h
   subst h
   refine ⟨by simp,fun j hj=> ?_,by simp,by simp [join],by simp⟩
   obtain rfl:j=0:=by simp at hj;omega
   refine ⟨fun _=>rfl,?_,List.nil_prefix⟩
   show k+dq false l≤L.length
   omega
  ·rename_i hne
   split at h
   ·cases h
   ·rename_i x hx
    split at h
    ·cases h
    ·rename_i r2 hr
     injection h with h
     subst h
     obtain ⟨_,_,hpre,hxne⟩:=td hx (gz false l) 32 [] rfl
     have hx1:0<x.2.1.length:=Ij.2 hxne
     have hx2:=hpre.length_le
     rw [HR] at hx2
     obtain ⟨h1,h2,h3,h4,h5⟩:=lQ i L fu (k+dq false l+x.2.1.length) _ r2 (by simp only [HR];omega) (by rw [←hd,List.drop_drop,List.drop_drop];congr 1;omega) (by simp only [HR];omega) hr
     simp only [HR] at h3 h4
     have hs:=zE i
     have hs1:1≤(qy i).length:=by obtain ⟨c,t,e,_⟩:=wg i;rw [e];simp
     have hj:(join (((⟨x.1,x.2.1,x.2.2.1,x.2.2.2,k+dq false l⟩:Tk)::r2).map (·.s)) (qy i)).length=x.2.1.length+(qy i).length+(join (r2.map (·.s)) (qy i)).length:=by
      match r2,h1 with
      |a::b,_=>simp [join];omega
     refine ⟨by simp,fun j hj'=> ?_,by simp only [HN];omega,by rw [hj];simp only [HN];omega,by rw [hj];simp only [HN];omega⟩
     cases j with
     |zero=>
      refine ⟨fun e=> ?_,?_,?_⟩
      ·have:r2.length=0:=by simpa using e.symm
       exact absurd (List.length_eq_zero_iff.1 this) h1
      ·show k+dq false l≤L.length
       omega
      ·show x.2.1<+:L.drop (k+dq false l)
       rw [←List.drop_drop,hd]
       exact hpre
     |succ j=>
      obtain ⟨a1,a2⟩:=h2 j (by simpa using hj')
      exact ⟨fun e=>a1 (by simpa using e),a2⟩
end
structure EF where
 sw:List ByteArray
 ports:List (List Int)
 links:List ((Int×Int)×(Int×Int))
@[reducible] def G1 (e:Int×Int):Value:=.agg #[.int .i64 e.1,.int .i64 e.2]
def zF (l:List Int) (i:Nat):Prop:=1≤l.getD i 0∧l.getD i 0≤511∧(0<i→l.getD (i-1) 0<l.getD i 0)
instance (l:List Int) (i:Nat):Decidable (zF l i):=by unfold zF;infer_instance
section
open Go.Lib
abbrev G2:Tk:=⟨0,[],0,0,0⟩
def ag (l:List Tk):Tk:=l.headD G2
def ai (l:List Tk):List Tk:=if (ag l).kind=0 then l else l.tail
def eL (l:List Tk):Prop:=(∃ t∈l,t.kind=0)∧∀ t∈l,t.s.length≤65536
def cD (s:List UInt8) (l:List Tk):Bool:=(ag l).s==s&&((ag l).kind==3 ||(ag l).kind==1)
def B9 (t:Tk):Bool:=t.kind==1&&p9 ⟨t.s.toArray⟩
theorem eL.ne {l:List Tk} (h:eL l):l≠ []:=by
 obtain ⟨⟨t,ht,_⟩,_⟩:=h
 exact List.ne_nil_of_mem ht
theorem eL.head {l:List Tk} (h:eL l):(ag l).s.length≤65536:=by
 cases l with
 |nil=>exact absurd rfl h.ne
 |cons a r=>exact h.2 a List.mem_cons_self
theorem eL.adv {l:List Tk} (h:eL l):eL (ai l):=by
 unfold ai
 split
 ·exact h
 ·rename_i hk
  obtain ⟨⟨t,ht,h0⟩,h2⟩:=h
  cases l with
  |nil=>simp at ht
  |cons a r=>
   refine ⟨?_,fun x hx=>h2 x (List.mem_cons_of_mem _ hx)⟩
   rcases HU.1 ht with rfl|ht
   ·exact absurd h0 hk
   ·exact ⟨t,ht,h0⟩
theorem bp (l:List Tk):(ai l).length≤l.length:=by
 unfold ai
 split
 ·exact Ht _
 ·rw [List.length_tail];omega
theorem gP {l:List Tk} (h:eL l) (hk:(ag l).kind≠0):(ai l).length+1=l.length:=by
 unfold ai
 rw [if_neg hk,List.length_tail]
 have:=Ij.2 h.ne
 omega
end
section
open Go.Lib
abbrev T0:=Nat×List UInt8×Nat×Nat
def st (t:Tk):T0:=(t.kind,t.s,t.w,t.n)
end
section
attribute [local go_sem ↓] iP gn
def EG (n k j:Nat):Value:=.bool (decide (j<k)&&decide (j<n))
def Cv (n k:Nat):Array Value:=((HX 128).map (EG n k)).toArray
theorem iU (n k j:Nat) (hj:j<128):(Cv n k)[j]? =some (EG n k j):=by simp [Cv,hj]
theorem fw (n k:Nat):(Cv n k).size=128:=by simp [Cv]
theorem zG (n:Nat):Cv n 0=Tryz.zeroCells163:=by
 rw [←nN 0 0]
 refine et (fw _ _) (aQ _ _ _) fun j hj=> ?_
 rw [iU _ _ _ hj,bE _ _ _ _ hj]
 simp [EG,fj,nO]
theorem zH (n:Nat) {k:Nat} (hk:k<128):(Cv n k).setIfInBounds k (.bool (decide (k<n)))=Cv n (k+1):=
 et (by simp [fw]) (fw _ _) fun j hj=>by
  rw [Iv,iU _ _ _ hj,iU _ _ _ hj]
  simp only [fw]
  by_cases h:k=j
  ·subst h;simp [EG,hk]
  ·rw [if_neg h]
   have:decide (j<k)=decide (j<k+1):=by rw [decide_eq_decide];omega
   simp [EG,this]
theorem qz (n j:Nat):bu (aX n) j=decide (j+64<n)∧bu (aP n) j=(decide (j<64)&&decide (j<n)):=by
 have hp:∀ m:Nat,bu (2 ^ m-1) j=decide (j<m):=fun m=>by
  have e:((2:Int) ^ m-1)=((2 ^ m-1:Nat):Int):=by
   have:=Nat.pow_pos (n:=m) (show 0<2 by decide)
   rw [Int.ofNat_sub this];simp
  rw [e,eH,Nat.testBit_two_pow_sub_one]
 unfold aX aP
 by_cases h:n≤64
 ·rw [if_pos h,if_pos h,nO,hp,decide_eq_false (show ¬j+64<n by omega)]
  refine ⟨rfl,?_⟩
  rw [HF];simp only [Hy,decide_eq_true_eq];omega
 ·rw [if_neg h,if_neg h,hp,show (18446744073709551615:Int)=2 ^ 64-1 from rfl,hp]
  refine ⟨?_,?_⟩
  ·rw [decide_eq_decide];omega
  ·rw [HF];simp only [Hy,decide_eq_true_eq];omega
theorem Cw (n:Nat):Cv n 128=bh (aX n) (aP n) 64:=et (fw _ _) (aQ _ _ _) fun j hj=>by
 rw [iU _ _ _ hj,bE _ _ _ _ hj]
 unfold EG fj
 rw [(qz n j).2,(qz n (j-64)).1]
 by_cases h:j<64
 ·simp [h,hj]
 ·have:decide (j-64+64<n)=decide (j<n):=by rw [decide_eq_decide];omega
  simp [h,hj,this,show j<64+64 by omega]
theorem tg (z:Int) (w:World):Calls prog 58 #[.int .i64 z] w fun e w'=>e=.returned (.agg #[.int .u64 (aX (eu z)),.int .u64 (aP (eu z))])∧Below w.heap.size w w':=by
 obtain ⟨n,hn⟩:∃ n,eu z=n:=⟨_,rfl⟩
 have hz:∀ k:Nat,k<128→((k:Int)<z↔k<n):=fun k hk=>by rw [←hn];exact zt z k hk
 have hN:Hid (∀ W,Calls prog 112 #[.agg (bh (aX n) (aP n) 64)] W fun e w'=>e=.returned (.agg #[.int .u64 (aX n),.int .u64 (aP n)])∧Below W.heap.size W w'):=aa (fun W=>jt (aX n) (aP n) W (by have:=lC z;exact (kH ⟨n,by omega⟩).2.1) (by have:=lC z;exact (kH ⟨n,by omega⟩).2.2))
 have hend:=aa (Cw n)
 rw [hn]
 clear hn
 obtain ⟨wb,hwb,hsb,hbb,hcb,-⟩:=af w #[.int .u64 0,.int .u64 0] 96
 have hg1:=aa (show wb.heap[w.heap.size]? =some (.cells #[.int .u64 0,.int .u64 0] 96 (0,0)) by rw [←hwb];exact heap_alloc_last w _)
 have hbw:=aa hbb
 have hzb:w.heap.size<wb.heap.size:=by omega
 replace hsb:=aa hsb
 clear hcb hbb
 go_enter func58,ntmps58
 go_wp2
 rw [←zG n]
 go_loopw [4] (fun i wr=>∃ k:Nat,k≤128∧i=.int .i64 k∧wr=wb.alloc (.cells (Cv n k) 163)) (fun i _=>128-(intOf i).toNat)
 case atStart=>exact ⟨0,Hz _,rfl,rfl⟩
 case round=>
  obtain ⟨k,hk,rfl,rfl⟩:=hrel
  have hs1:=fw n k
  by_cases hlt:k<128
  ·have hltz:(k:Int)<128:=by omega
   have hsucc:=zH n hlt
   have hc:=iU n k k hlt
   have hcmp:decide ((k:Int)<z)=decide (k<n):=by rw [decide_eq_decide];exact hz k hlt
   clear hs1
   replace hsucc:=aa hsucc
   go_wp2
   go_roundw
   case rel=>exact ⟨k+1,by omega,by go_num,by first|rw [hsucc.out]|rw [hcmp,hsucc.out]⟩
   case measure=>simp [intOf];omega
  ·obtain rfl:k=128:=by omega
   rw [hend.out]
   rw [hend.out] at hs1
   have hlast:=heap_alloc_last wb (.cells (bh (aX n) (aP n) 64) 163)
   have hbl:Below wb.heap.size wb (wb.alloc (.cells (bh (aX n) (aP n) 64) 163)):=(Hs _ _).alloc (Ht _) _
   obtain ⟨W,hW⟩:∃ W,wb.alloc (.cells (bh (aX n) (aP n) 64) 163)=W:=⟨_,rfl⟩
   rw [hW] at hlast hbl
   have hld:=gL hlast hs1
   have hzW:wb.heap.size≤W.heap.size:=hbl.size
   have hBW:=aa (hbw.out.trans (hbl.mono (HL hzb)))
   have hgW:=aa ((hbl.block _ hzb).trans hg1.out)
   clear hs1 hlast hbl
   go_wp2_with fail
   refine (hN.out _).mono ?_
   rintro e w2 ⟨rfl,hb2⟩
   have hg2:w2.heap[w.heap.size]? =some (.cells #[.int .u64 0,.int .u64 0] 96 (0,0)):=(hb2.block _ (by omega)).trans hgW.out
   have hB2:=aa (hBW.out.trans (hb2.mono (by omega)))
   have k0:w2.cell? ⟨w.heap.size,0,none⟩=some (.int .u64 0):=by simp [World.cell?,hg2]
   have k1:w2.cell? ⟨w.heap.size,1,none⟩=some (.int .u64 0):=by simp [World.cell?,hg2]
   have f0:w2.frozen? ⟨w.heap.size,0,none⟩=false:=by simp [World.frozen?,hg2]
   have f1:w2.frozen? ⟨w.heap.size,1,none⟩=false:=by simp [World.frozen?,hg2]
   have hl2:w.heap.size<w2.heap.size:=by have:=hb2.size;omega
   clear hg2 hld
   go_wp2
   exact bodyPost_ret (v:=.agg #[.int .u64 (aX n),.int .u64 (aP n)]) (by simp [results,results58,go_sem,k0,k1,hl2]) rfl ⟨rfl,(hB2.out.setCell (Ht _) _).setCell (Ht _) _⟩
theorem DX (hi lo:Int) {j:Nat} (hj:j<128):(bh hi lo 64)[j]? =some (.bool (nB hi lo j)):=by
 rw [bE _ _ _ _ hj]
 unfold fj nB
 by_cases h:j<64
 ·simp [h]
 ·simp [h,show j<64+64 by omega]
theorem nT (hi lo:Int) (j:Nat) (w:World) (hh:aW hi) (hl:aW lo) (hj:j<128):Calls prog 111 #[.agg #[.int .u64 hi,.int .u64 lo],.int .i64 (j:Int)] w fun e w'=>e=.returned (.bool (nB hi lo j))∧Below w.heap.size w w':=by
 have hB:=aa (fun W=>fR hi lo W hh hl)
 have hr:=DX hi lo hj
 generalize nB hi lo j=R at hr ⊢
 obtain ⟨wa,hwa,hsa,hba,hca,-⟩:=af w #[.int .u64 hi,.int .u64 lo] 96
 have y0:wa.cell? ⟨w.heap.size,0,none⟩=some (.int .u64 hi):=hca 0
 have y1:wa.cell? ⟨w.heap.size,1,none⟩=some (.int .u64 lo):=hca 1
 have hbw:=aa hba
 have hz:=aa (show w.heap.size≤wa.heap.size by omega)
 have d0:decide ((0:Int)≤(j:Int))=true:=decide_eq_true (by omega)
 have d1:decide ((j:Int)<128)=true:=decide_eq_true (by omega)
 have d2:(j:Int)<128:=by omega
 replace hsa:=aa hsa
 have hs:=aQ hi lo 64
 have hrg:(bh hi lo 64)[j]'(by rw [aQ];exact hj)=.bool R:=by rw [←Option.some_inj,←Array.getElem?_eq_getElem,hr]
 have ho:=gm hi lo 64
 clear hba hca hh hl
 go_enter func111,ntmps111
 go_wp2_with (go_at_call 145;refine (hB.out _).mono ?_;rintro e w1 ⟨rfl,hb1⟩;have hst:(lq (.pointer (some ⟨w1.heap.size,0,none⟩)) (.agg (bh hi lo 64))).run prog (w1.alloc (.cells Tryz.zeroCells163 163))=.ok () (w1.alloc (.cells (bh hi lo 64) 163)):=(by rw [eG (heap_alloc_last w1 _) (by rfl) hs ho,World.setRow_alloc_new]))
 go_ret
 exact ⟨by simp [hrg],hbw.out.trans ((hb1.mono hz.out).trans ((Hs _ _).alloc (by have:=hb1.size;have:=hz.out;omega) _))⟩
end
def eh (ts:Array TypeId) (ty:TypeId) (args:Array Value):Sem Value:=Builtin.append_ ts ty args
theorem cH (ts:Array TypeId) (ty:TypeId) (args:Array Value):Builtin.append_ ts ty args=eh ts ty args:=rfl
theorem dO {w w':World} {base B:Nat} {e:TypeId} {size:Nat} {v:Value} {n:Nat} {xs:List Value} (h:w.ownsRow base e size v n xs) (hb:Below B w w') (hB:w.heap.size≤B):w'.ownsRow base e size v n xs:=by
 refine ⟨h.1,?_⟩
 rcases h.2 with h2|⟨g,cap,cur,rfl,hg,hh,r⟩
 ·exact .inl h2
 ·have:=(h.lt g rfl).2
  exact .inr ⟨g,cap,cur,rfl,hg,(hb.block g (by omega)).trans hh,r⟩
def dX:Nat:=100000000
theorem wh (A1 A2 A3 A4 A5 A6 A7 A8 A9 A10 A11 A12:Option Addr) (p:Lp) (c1 c2 c3 c4 c5 c6 c7 c8 c9 c10 c11 c12:Nat) (act:Int) (n:Nd) (w:World) (h:cz w w.heap.size A1 A2 A3 A4 A5 A6 A7 A8 A9 A10 A11 A12 p) (hn:aW n.hi∧aW n.lo):Calls prog 166 #[.agg (aO A1 A2 A3 A4 A5 A6 A7 A8 A9 A10 A11 A12 p c1 c2 c3 c4 c5 c6 c7 c8 c9 c10 c11 c12),.int .i64 act,.agg #[.int .u8 n.op,.int .i64 n.w,.int .i64 n.a,.int .i64 n.b,.int .u64 n.hi,.int .u64 n.lo]] w fun e w'=>e=.returned (.int .i64 (qg p act n))∧Below w.heap.size w w':=by
 unfold aO
 obtain ⟨op,nw,a,b,hi,lo⟩:=n
 simp only at hn ⊢
 obtain ⟨wz,hwz,hsz,hbz,hcz,-⟩:=af w (aO A1 A2 A3 A4 A5 A6 A7 A8 A9 A10 A11 A12 p c1 c2 c3 c4 c5 c6 c7 c8 c9 c10 c11 c12) 33
 obtain ⟨wa,hwa,hsa,hba,hca,-⟩:=af wz #[.int .u8 op,.int .i64 nw,.int .i64 a,.int .i64 b,.int .u64 hi,.int .u64 lo] 98
 have y0:=(bj hba w.heap.size 0 (by omega)).trans (hcz 0)
 have y1:=(bj hba w.heap.size 1 (by omega)).trans (hcz 1)
 have y3:=(bj hba w.heap.size 3 (by omega)).trans (hcz 3)
 simp only [HB,HC,HD] at y0 y1 y3
 simp only [hsz] at hca
 have x0:wa.cell? ⟨w.heap.size+1,0,none⟩=some (.int .u8 op):=hca 0
 have x1:wa.cell? ⟨w.heap.size+1,1,none⟩=some (.int .i64 nw):=hca 1
 have x2:wa.cell? ⟨w.heap.size+1,2,none⟩=some (.int .i64 a):=hca 2
 have x3:wa.cell? ⟨w.heap.size+1,3,none⟩=some (.int .i64 b):=hca 3
 have x4:wa.cell? ⟨w.heap.size+1,4,none⟩=some (.int .u64 hi):=hca 4
 have x5:wa.cell? ⟨w.heap.size+1,5,none⟩=some (.int .u64 lo):=hca 5
 have hl1:w.heap.size<wa.heap.size:=by omega
 have hl2:w.heap.size+1<wa.heap.size:=by omega
 have hw:Below w.heap.size w wa:=hbz.trans (hba.mono (by omega))
 have hS:=(h.below hw).more hw.size
 have hA1:=aa hS.heads
 have hA2:=aa hS.metas
 have hA4:=aa hS.acts
 replace hw:=aa hw
 replace hsa:=aa hsa
 clear hca hcz hba hbz h hS
 have hv:=aa (show qg p act ⟨op,nw,a,b,hi,lo⟩=if op=1 then (if a=0∧bJ nw hi lo=true then nw else 0) else eD p act op a b from rfl)
 go_enter func166,ntmps166
 by_cases o1:op=1
 ·subst o1
  have hF:=fun W=>cA hi lo nw W hn
  generalize bJ nw hi lo=F at hF hv
  replace hF:=aa hF
  by_cases ha:a=0
  ·subst ha
   cases F
   all_goals
    go_wp2_with (go_at_call 133;refine (hF.out _).mono ?_;rintro e w3 ⟨rfl,hb3⟩;have kb3:=fd hb3)
    go_ret
    exact ⟨av (by rw [hv.out];rfl),hw.out.trans (hb3.mono hw.out.size)⟩
  ·go_wp2
   go_ret
   exact ⟨av (by rw [hv.out];simp [ha]),hw.out⟩
 ·by_cases o2:op=2
  ·subst o2
   go_wp2_with (first|(go_at_call 128;refine (kE _ _ _ _ _ hA1.out).mono ?_;rintro e w' ⟨A',c',rfl,hs,rfl⟩)|(go_at_call 129;refine (iO _ _ _ _ _ hs).mono ?_;rintro e w' ⟨rfl,rfl⟩))
   go_ret
   exact ⟨av (by rw [hv.out];rfl),hw.out⟩
  ·by_cases o3:op=3
   ·subst o3
    go_wp2_with (go_at_call 129;refine (iO _ _ _ _ _ hA2.out).mono ?_;rintro e w' ⟨rfl,rfl⟩)
    go_ret
    exact ⟨av (by rw [hv.out];rfl),hw.out⟩
   ·by_cases o4:op=4
    ·subst o4
     go_wp2_with (first|(go_at_call 136;refine (o7 _ _ _ _ _ hA4.out).mono ?_;rintro e w3 ⟨A',c',A'',n'',c'',rfl,hs,hb3⟩;have kb3:=fd hb3;have hq:=Hr hl2 hb3.size;have hs3:=aa ((hs.below ah hb3).more ah hb3.size))|(go_at_call 129;refine (iO _ _ _ _ _ ((hs3.out.alloc ah (Ht _) _).more ah (by simp))).mono ?_;rintro e w' ⟨rfl,rfl⟩))
     go_ret
     exact ⟨av (by rw [hv.out];rfl),hw.out.trans ((hb3.mono hw.out.size).alloc (Hw hw.out.size hb3.size) _)⟩
    ·by_cases o5:op=5
     ·subst o5
      by_cases ha:a=0
      ·subst ha
       go_wp2
       go_ret
       exact ⟨av (by rw [hv.out];rfl),hw.out⟩
      ·go_wp2
       go_ret
       exact ⟨av (by rw [hv.out];simp [eD,ha]),hw.out⟩
     ·by_cases o6:op=6
      ·subst o6
       cases hz:dC p.heads.length a
       all_goals
        go_wp2_with (go_at_call 128;refine (kE _ _ _ _ _ hA1.out).mono ?_;rintro e w' ⟨A',c',rfl,hs,rfl⟩;rw [hz])
        go_ret
        exact ⟨av (by rw [hv.out];simp [eD,hz]),hw.out⟩
      ·go_wp2
       go_ret
       exact ⟨av (by rw [hv.out];simp [eD,o1,o2,o3,o4,o5,o6]),hw.out⟩
theorem lR:(prog.info? 3).map (fun i=>(i.zero,i.size,i.bytes))=some (some (.int .i64 0),1,8):=by kernel_rfl
def ci (w:World) (base:Nat) (v:Value) (l:List Int):Prop:=w.ownsRow base 3 1 v l.length (l.map (Value.int .i64))
theorem ci.nil_ (w:World) (base:Nat):ci w base (.slice none 0 0) []:=World.ownsRow_nil _ _ _ _
theorem ci.below {w w':World} {base C:Nat} {v:Value} {l:List Int} (h:ci w base v l) (hb:Below C w w') (hC:w.heap.size≤C):ci w' base v l:=dO h hb hC
theorem ci.mono {w:World} {base base':Nat} {v:Value} {l:List Int} (h:ci w base v l) (hb:base'≤base):ci w base' v l:=by
 refine ⟨h.1,?_⟩
 rcases h.2 with h2|⟨g,cap,cur,rfl,hg,r⟩
 ·exact .inl h2
 ·exact .inr ⟨g,cap,cur,rfl,by omega,r⟩
theorem ci.form {w:World} {base:Nat} {v:Value} {l:List Int} (h:ci w base v l):∃ A cap,v=.slice A l.length cap:=by
 rcases h.2 with ⟨rfl,hz⟩|⟨g,cap,cur,rfl,_⟩
 ·exact ⟨none,0,by rw [hz]⟩
 ·exact ⟨_,_,rfl⟩
theorem wi (l:List Int):l.map (Value.int .i64)=l.flatMap fun x=> [Value.int .i64 x]:=by induction l<;>simp_all
theorem ci.sl {w:World} {base:Nat} {v:Value} {l:List Int} (h:ci w base v l):∃ A cap,v=.slice A l.length cap∧Sl 1 bc w w.heap.size A l:=by
 refine fK (f:=fun x=> [Value.int .i64 x]) (fun _=>rfl) (fun _ _=>rfl) (base:=base) (e:=3) ?_
 rw [←wi];exact h
theorem qA (xs:List Int):∀ u∈xs.map (Value.int .i64),u.oneCell'=true:=fun u hu=>by
 obtain ⟨x,-,rfl⟩:=List.mem_map.1 hu;rfl
theorem iV {W:World} {base:Nat} {v:Value} {l:List Int} (x:Int) (hd:ci W base v l) (hb:base≤W.heap.size) (hz:l.length≤dX):
  ∃ v' w',(eh #[23,23] 23 #[v,.slice (some ⟨W.heap.size,0,none⟩) 1 1]).run prog (W.alloc (.cells #[.int .i64 x] 3))=.ok v' w'∧ci w' base v' (l++ [x])∧Below base W w':=by
 unfold dX at hz
 obtain ⟨ii,hii,hzi0,hzi1,hzi2⟩:=info_parts lR
 obtain ⟨v',w',hrun,h2,h3,_,_⟩:=run_append_own_at (P:=prog) (W.alloc (.cells #[.int .i64 x] 3)) base 23 23 3 ii (.int .i64 0) 1 8 underlying23 hii hzi0 hzi1 hzi2 rfl (by omega) v l.length _ (World.ownsRow.alloc hd _) ⟨W.heap.size,0,none⟩ 1 1 [.int .i64 x] rfl (World.news_of_block (cs:=#[.int .i64 x]) (t:=3) (fr:=(0,0)) (heap_alloc_new W _)) (by simp [Value.oneCell']) (by simp [maxLen];omega) (by omega) (by simp;omega)
 exact ⟨v',w',hrun,by unfold ci;simpa using h2,(((Hs _ _).alloc hb _).grown h3 (by simp;omega) (fun g e=>(hd.lt g e).1))⟩
def jy (w:World) (g:Nat) (xs:List Int) (b:Bool):Prop:=∃ v,w.heap[g]? =some (.cells #[v,.bool b] 191 (0,0))∧ci w (g+1) v xs
theorem jy.lt {w:World} {g:Nat} {xs:List Int} {b:Bool} (h:jy w g xs b):g<w.heap.size:=by
 obtain ⟨v,h,_⟩:=h
 exact (Ir.1 h).1
theorem jy.below {w w':World} {g:Nat} {xs:List Int} {b:Bool} (h:jy w g xs b) (hb:Below w.heap.size w w'):jy w' g xs b:=by
 have hl:=h.lt
 obtain ⟨v,h1,h2⟩:=h
 exact ⟨v,(hb.block g hl).trans h1,h2.below hb (Ht _)⟩
theorem jy.cells {w:World} {g:Nat} {xs:List Int} {b:Bool} (h:jy w g xs b):∃ v,w.cell? ⟨g,0,none⟩=some v∧w.cell? ⟨g,1,none⟩=some (.bool b)∧w.frozen? ⟨g,0,none⟩=false∧w.frozen? ⟨g,1,none⟩=false∧ci w (g+1) v xs:=by
 obtain ⟨v,h1,h2⟩:=h
 exact ⟨v,by simp [World.cell?,h1],by simp [World.cell?,h1],by simp [World.frozen?,h1],by simp [World.frozen?,h1],h2⟩
def Gr (g:Nat) (w w':World):Prop:=w.grownBy w' (some g)
theorem Gr.refl (g:Nat) (w:World):Gr g w w:=⟨rfl,rfl,rfl,Ht _,fun _ _ _=>rfl⟩
theorem Gr.trans {g:Nat} {a b c:World} (h:Gr g a b) (h':Gr g b c):Gr g a c:=⟨h'.os.trans h.os,h'.tape.trans h.tape,h'.output.trans h.output,Hw h.size h'.size,fun k hk hn=>(h'.block k (Hr hk h.size) hn).trans (h.block k hk hn)⟩
theorem Gr.of {g:Nat} {a b:World} (h:Below a.heap.size a b):Gr g a b:=⟨h.os,h.tape,h.output,h.size,fun k hk _=>h.block k hk⟩
theorem Gr.set (g:Nat) (w:World) (i:Nat) (v:Value):Gr g w (w.setCell ⟨g,i,none⟩ v):=⟨rfl,rfl,rfl,by simp,fun k _ hn=>Below.heap_setCell w ⟨g,i,none⟩ v k (by show k≠g;intro e;subst e;exact hn rfl)⟩
theorem Gr.below {g B:Nat} {a b:World} (h:Gr g a b) (hB:B≤g) (hs:B≤a.heap.size):Below B a b:=⟨h.os,h.tape,h.output,h.size,fun k hk=>h.block k (Hr hk hs) (by simp;omega)⟩
theorem Gr.cell {g k i:Nat} {a b:World} (h:Gr g a b) (hk:k<a.heap.size) (hn:k≠g):b.cell? ⟨k,i,none⟩=a.cell? ⟨k,i,none⟩:=World.cell?_of_block (h.block k hk (by simp;exact hn))
theorem qB {w:World} {g i:Nat} {v:Value} {cs:Array Value} {t:TypeId} (h:w.heap[g]? =some (.cells cs t (0,0))):(w.setCell ⟨g,i,none⟩ v).heap[g]? =some (.cells (cs.setIfInBounds i v) t (0,0)):=by
 simp [World.setCell,Array.getElem?_modify,h]
theorem ci.set {w:World} {base g i:Nat} {v u:Value} {l:List Int} (h:ci w base v l) (hg:g<base):ci (w.setCell ⟨g,i,none⟩ u) base v l:=by
 refine ⟨h.1,?_⟩
 rcases h.2 with h2|⟨g',cap,cur,rfl,hg',hh,r⟩
 ·exact .inl h2
 ·exact .inr ⟨g',cap,cur,rfl,hg',(Below.heap_setCell w ⟨g,i,none⟩ u g' (by show g'≠g;omega)).trans hh,r⟩
theorem jy.set0 {w w':World} {g:Nat} {b:Bool} {v u:Value} {l:List Int} (h:w.heap[g]? =some (.cells #[v,.bool b] 191 (0,0))) (hb:Below (g+1) w w') (hu:ci w' (g+1) u l):jy (w'.setCell ⟨g,0,none⟩ u) g l b:=
 ⟨u,by rw [qB (w:=w') ((hb.block g (by omega)).trans h)];rfl,hu.set (by omega)⟩
theorem jy.set1 {w w':World} {g:Nat} {b:Bool} {v:Value} {l:List Int} (h:w.heap[g]? =some (.cells #[v,.bool b] 191 (0,0))) (hb:Below (g+1) w w') (hu:ci w' (g+1) v l):jy (w'.setCell ⟨g,1,none⟩ (.bool true)) g l true:=
 ⟨v,by rw [qB (w:=w') ((hb.block g (by omega)).trans h)];rfl,hu.set (by omega)⟩
theorem ci.pop {w:World} {base:Nat} {v:Value} {l:List Int} {x:Int} (h:ci w base v (l++ [x])):∃ g cap,v=.slice (some ⟨g,0,none⟩) (l.length+1) cap∧l.length+1≤cap∧cap≤maxLen∧w.cell? ⟨g,l.length,none⟩=some (.int .i64 x)∧ci w base (.slice (some ⟨g,0,none⟩) l.length cap) l:=by
 have h':w.ownsRow base 3 1 v (l.length+1) (l.map (Value.int .i64)++ [.int .i64 x]):=by unfold ci at h;simpa using h
 rcases h'.2 with ⟨_,hz⟩|⟨g,cap,cur,rfl,hg,hh,hc,hm,r⟩
 ·omega
 ·refine ⟨g,cap,rfl,hc,hm,?_,?_⟩
  ·have:=h'.cells (g:=g) rfl l.length (.int .i64 x) (by simp)
   have e:(⟨g,0,none⟩:Addr).add l.length=⟨g,l.length,none⟩:=by unfold Addr.add;split<;>simp_all
   rwa [e] at this
  ·exact ownsRow_pop (by simp) h'
theorem lS (w:World) (g:Nat) (b:Bool) (h:jy w g [] b):Calls prog 167 #[.pointer (some ⟨g,0,none⟩)] w fun e w'=>e=.returned (.int .i64 0)∧jy w' g [] true∧Gr g w w':=by
 have hg:=h.lt
 obtain ⟨v,h1,h2⟩:=h
 obtain ⟨A,cap,rfl⟩:=h2.form
 have c0:w.cell? ⟨g,0,none⟩=some (.slice A 0 cap):=by simp [World.cell?,h1]
 have f1:w.frozen? ⟨g,1,none⟩=false:=by simp [World.frozen?,h1]
 have c1:w.cell? ⟨g,1,none⟩=some (.bool b):=by simp [World.cell?,h1]
 replace h1:=aa h1
 go_enter func167,ntmps167
 go_wp2
 go_ret
 exact ⟨rfl,jy.set1 h1.out (Hs _ _) h2,Gr.set _ _ _ _⟩
theorem lT (w:World) (g:Nat) (xs:List Int) (x:Int) (b:Bool) (h:jy w g (xs++ [x]) b) (hm:xs.length≤100000):Calls prog 167 #[.pointer (some ⟨g,0,none⟩)] w fun e w'=>e=.returned (.int .i64 x)∧jy w' g xs b∧Gr g w w':=by
 have hg:=h.lt
 obtain ⟨v,h1,h2⟩:=h
 obtain ⟨k,cap,rfl,hc,hcm,hx,h3⟩:=h2.pop
 have c0:w.cell? ⟨g,0,none⟩=some (.slice (some ⟨k,0,none⟩) (xs.length+1) cap):=by simp [World.cell?,h1]
 have f0:w.frozen? ⟨g,0,none⟩=false:=by simp [World.frozen?,h1]
 replace h1:=aa h1
 replace h3:=aa h3
 clear h2
 generalize hn:xs.length=n at*
 have hnz:((n:Int)+1==0)=false:=by rw [beq_eq_false_iff_ne];omega
 go_enter func167,ntmps167
 go_wp2_with fail
 go_quiet (fail)
 go_wp2_with fail
 go_region
 all_goals
  go_wp2
  go_ret
  have hd:∀ B m,Below B w (w.drewN m):=fun B m=>au (Hs _ _) m
  exact ⟨rfl,jy.set0 h1.out (hd _ _) (h3.out.below (hd _ _) (Ht _)),(Gr.of (hd _ _)).trans (Gr.set _ _ _ _)⟩
def jA:Except Int Nat→Value
 | .ok v=>.tuple #[.agg #[.int .u64 ((v / 18446744073709551616:Nat):Int),.int .u64 ((v % 18446744073709551616:Nat):Int)],.int .i64 0]
 | .error n=>.tuple #[.agg #[.int .u64 0,.int .u64 0],.int .i64 n]
structure dY (W:World) (g:Nat) (x y:Int):Prop where
 lt:g<W.heap.size
 c0:W.cell? ⟨g,0,none⟩=some (.int .u64 x)
 c1:W.cell? ⟨g,1,none⟩=some (.int .u64 y)
 f0:W.frozen? ⟨g,0,none⟩=false
 f1:W.frozen? ⟨g,1,none⟩=false
theorem dY.below {W W':World} {g B:Nat} {x y:Int} (h:dY W g x y) (hb:Below B W W') (hg:g<B):dY W' g x y:=
 ⟨Hr h.lt hb.size,(hb.cell (p:=⟨g,0,none⟩) hg).trans h.c0,(hb.cell (p:=⟨g,1,none⟩) hg).trans h.c1,(hb.frozen (p:=⟨g,0,none⟩) hg).trans h.f0,(hb.frozen (p:=⟨g,1,none⟩) hg).trans h.f1⟩
theorem dY.new (W:World) (x y:Int) (t:TypeId):dY (W.alloc (.cells #[.int .u64 x,.int .u64 y] t)) W.heap.size x y:=by
 obtain ⟨wa,hwa,hsa,hba,hca,hfa⟩:=af W #[.int .u64 x,.int .u64 y] t
 rw [hwa]
 exact ⟨by omega,hca 0,hca 1,hfa 0,hfa 1⟩
theorem dY.alloc {W:World} {g:Nat} {x y:Int} (h:dY W g x y) (o:Obj):dY (W.alloc o) g x y:=h.below ((Hs _ _).alloc (Ht _) o) h.lt
theorem aw (W:World) (a:Addr) (v:Value):(W.setCell a v).heap.size=W.heap.size:=by simp [World.setCell]
theorem dY.far {W:World} {g k i:Nat} {x y:Int} (h:dY W g x y) (v:Value) (hk:k≠g):dY (W.setCell ⟨k,i,none⟩ v) g x y:=by
 have hh:(W.setCell ⟨k,i,none⟩ v).heap[g]? =W.heap[g]? :=Below.heap_setCell _ _ _ _ (fun e=>hk e.symm)
 refine ⟨by rw [aw];exact h.lt,?_,?_,?_,?_⟩
 ·rw [←h.c0];unfold World.cell?;rw [hh]
 ·rw [←h.c1];unfold World.cell?;rw [hh]
 ·rw [←h.f0];unfold World.frozen?;rw [hh]
 ·rw [←h.f1];unfold World.frozen?;rw [hh]
theorem dY.set {W:World} {g:Nat} {x y:Int} (h:dY W g x y) (x' y':Int):dY ((W.setCell ⟨g,0,none⟩ (.int .u64 x')).setCell ⟨g,1,none⟩ (.int .u64 y')) g x' y':=by
 obtain ⟨hl,c0,c1,f0,f1⟩:=h
 refine ⟨by rw [aw,aw];exact hl,?_,?_,?_,?_⟩<;>simp [go_sem,c0,c1,f0,f1]
end Go.Proofs.YtijcdfdbkffiaaaGreatDoor

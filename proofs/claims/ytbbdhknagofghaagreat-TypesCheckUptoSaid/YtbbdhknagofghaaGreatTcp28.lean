import Derived.Test.YtbbdhknagofghaaGreatTcp18
set_option linter.all false
open Go.Proofs.Tryz
namespace Go.Proofs.YtbbdhknagofghaaGreat
open _root_.Nat renaming lt_of_lt_of_le→Bg
open _root_.Bool renaming and_eq_true→Bn
open _root_.List renaming mem_cons_self→BW
open Go.RowKit
def uj (l:Array Bool):Nat:=(l.toList.filter (!·)).length
theorem oP {l:Array Bool} {i:Nat} (hi:l[i]? =some false):uj (l.setIfInBounds i true)+1=uj l:=by
 obtain ⟨l⟩:=l
 unfold uj
 simp only [List.setIfInBounds_toArray]
 simp at hi
 induction l generalizing i with
 |nil=>simp at hi
 |cons x l ih=>
  cases i with
  |zero=>simp at hi;subst hi;simp
  |succ i=>
   have:=ih (i:=i) (by simpa using hi)
   cases x<;>simp [List.filter_cons] at this ⊢ <;>omega
theorem lu {md:Region.Mode} {ops:Array Oper} {l:Array Bool} {i:Nat} (h:i∈Region.ready md ops l) (hs:l.size=ops.size):l[i]? =some false:=by
 unfold Region.ready at h
 obtain ⟨h1,h2⟩:=List.mem_filter.1 h
 have hi:i<l.size:=by rw [hs];exact List.mem_range.1 h1
 simp only [Bn,Bool.not_eq_true'] at h2
 have:=h2.1
 rw [Array.getD_eq_getD_getElem?,Array.getElem?_eq_getElem hi] at this
 rw [Array.getElem?_eq_getElem hi]
 simpa using this
theorem vH {P:Program} {md:Region.Mode} {ops:Array Oper} {Q:Exit→Act→World→Prop} (Inv:Array Bool→Act→World→Prop)
  (hstep:∀ l a w i,l.size=ops.size→i∈Region.ready md ops l→Inv l a w→wpOp P ops Q i (Inv (l.setIfInBounds i true)) a w)
  (hend:∀ l a w,l.size=ops.size→Region.ready md ops l= []→Inv l a w→Q .normal a w):
  ∀ (fuel:Nat) (l:Array Bool) (a:Act) (w:World),l.size=ops.size→uj l≤fuel→Inv l a w→wpAny P md ops Q fuel l a w:=by
 intro fuel
 induction fuel with
 |zero=>
  intro l a w hs hl hI
  have hr:Region.ready md ops l= []:=by
   rcases hq:Region.ready md ops l with _|⟨i,r⟩
   ·rfl
   ·have hi:i∈Region.ready md ops l:=by rw [hq];exact BW
    have:=oP (lu hi hs)
    omega
  exact ⟨hr,hend l a w hs hr hI⟩
 |succ fuel ih=>
  intro l a w hs hl hI
  refine ⟨fun hr=>hend l a w hs hr hI,fun i hi=> ?_⟩
  have h1:=oP (lu hi hs)
  exact wpOp_mono (fun a' w' h'=>ih _ a' w' (by simpa using hs) (by omega) h') (hstep l a w i hs hi hI)
def lN (x y:Int):Int:=if y<x then 1 else if x<y then-1 else 0
def kz (hi lo:Int) (t:Nat):Bool:=if t<64 then eB lo t else eB hi (t-64)
theorem iu (H L t:Nat) (hL:L<2 ^ 64):kz (H:Int) (L:Int) t=(2 ^ 64*H+L).testBit t:=by
 rw [Nat.testBit_two_pow_mul_add _ hL]
 unfold kz
 split<;>rw [mO]
theorem uk (hi lo:Int) {t:Nat} (ht:t<128):(cG hi lo 64)[t]? =some (.bool (kz hi lo t)):=by
 rw [dp _ _ _ _ ht]
 unfold jD kz
 by_cases h:t<64
 ·simp [h]
 ·simp [h,show t<64+64 by omega]
theorem iv {hi lo:Int} (h:ei hi) (g:ei lo):∃ H L:Nat,hi=H∧lo=L∧H<2 ^ 64∧L<2 ^ 64:=by
 obtain ⟨h1,h2⟩:=h
 obtain ⟨g1,g2⟩:=g
 exact ⟨hi.toNat,lo.toNat,by omega,by omega,by omega,by omega⟩
theorem lW {H L:Nat} (hH:H<2 ^ 64) (hL:L<2 ^ 64) {t:Nat} (ht:128≤t):(2 ^ 64*H+L).testBit t=false:=by
 refine Nat.testBit_lt_two_pow (Bg (m:=2 ^ 128) (by omega) (Nat.pow_le_pow_right (by omega) ht))
theorem tp {x y t:Nat} (hx:x.testBit t=false) (hy:y.testBit t=true) (h:∀ s,t<s→x.testBit s=y.testBit s):x<y:=by
 have h1:x / 2 ^ (t+1)=y / 2 ^ (t+1):=Nat.eq_of_testBit_eq fun i=>by
  rw [Nat.testBit_div_two_pow,Nat.testBit_div_two_pow]
  exact h _ (by omega)
 rw [Nat.testBit_eq_decide_div_mod_eq] at hx hy
 simp only [decide_eq_false_iff_not,decide_eq_true_eq] at hx hy
 rw [Nat.pow_succ,←Nat.div_div_eq_div_mul,←Nat.div_div_eq_div_mul] at h1
 rcases Nat.lt_or_ge x y with h2|h2
 ·exact h2
 ·have:=Nat.div_le_div_right (c:=2 ^ t) h2
  generalize x / 2 ^ t=a at*
  generalize y / 2 ^ t=b at*
  omega
theorem ul {H L H' L':Nat} (hH:H<2 ^ 64) (hL:L<2 ^ 64) (hH':H'<2 ^ 64) (hL':L'<2 ^ 64) {t:Nat} (ha:kz H L t=false) (hb:kz H' L' t=true)
  (hab:∀ s,t<s→s<128→kz H L s=kz H' L' s):2 ^ 64*H+L<2 ^ 64*H'+L':=by
 rw [iu _ _ _ hL] at ha
 rw [iu _ _ _ hL'] at hb
 refine tp ha hb fun s hs=> ?_
 by_cases h:s<128
 ·have:=hab s hs h
  rwa [iu _ _ _ hL,iu _ _ _ hL'] at this
 ·rw [lW hH hL (by omega),lW hH' hL' (by omega)]
theorem zl {h1 l1 h2 l2:Int} (u1:ei h1) (u2:ei l1) (u3:ei h2) (u4:ei l2) {t:Nat} (ha:kz h1 l1 t=true) (hb:kz h2 l2 t=false)
  (hab:∀ s,t<s→s<128→kz h1 l1 s=kz h2 l2 s):lN (h1*18446744073709551616+l1) (h2*18446744073709551616+l2)=1:=by
 obtain ⟨H,L,rfl,rfl,a1,a2⟩:=iv u1 u2
 obtain ⟨H',L',rfl,rfl,b1,b2⟩:=iv u3 u4
 have:=ul b1 b2 a1 a2 hb ha (fun s hs hs'=>(hab s hs hs').symm)
 unfold lN
 rw [if_pos (by omega)]
theorem zo {h1 l1 h2 l2:Int} (u1:ei h1) (u2:ei l1) (u3:ei h2) (u4:ei l2) {t:Nat} (ha:kz h1 l1 t=false) (hb:kz h2 l2 t=true)
  (hab:∀ s,t<s→s<128→kz h1 l1 s=kz h2 l2 s):lN (h1*18446744073709551616+l1) (h2*18446744073709551616+l2)= -1:=by
 obtain ⟨H,L,rfl,rfl,a1,a2⟩:=iv u1 u2
 obtain ⟨H',L',rfl,rfl,b1,b2⟩:=iv u3 u4
 have:=ul a1 a2 b1 b2 ha hb hab
 unfold lN
 rw [if_neg (by omega),if_pos (by omega)]
theorem xQ {h1 l1 h2 l2:Int} (u1:ei h1) (u2:ei l1) (u3:ei h2) (u4:ei l2)
  (hab:∀ s,s<128→kz h1 l1 s=kz h2 l2 s):lN (h1*18446744073709551616+l1) (h2*18446744073709551616+l2)=0:=by
 obtain ⟨H,L,rfl,rfl,a1,a2⟩:=iv u1 u2
 obtain ⟨H',L',rfl,rfl,b1,b2⟩:=iv u3 u4
 have:2 ^ 64*H+L=2 ^ 64*H'+L':=Nat.eq_of_testBit_eq fun s=>by
  by_cases h:s<128
  ·have:=hab s h
   rwa [iu _ _ _ a2,iu _ _ _ b2] at this
  ·rw [lW a1 a2 (by omega),lW b1 b2 (by omega)]
 unfold lN
 rw [if_neg (by omega),if_neg (by omega)]
end Go.Proofs.YtbbdhknagofghaaGreat

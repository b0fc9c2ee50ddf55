import Derived.Test.YtbbdhknagofghaaGreatRows
import Derived.WalkSpells
import Derived.WalkLawsBesides
import Derived.BigQuiet
import Derived.Deep.AppendLies
import Derived.Lib.QuietBelow
import Derived.Lib.IndexMore
set_option linter.all false
open Go.Proofs.Tryz
namespace Go.Proofs.YtbbdhknagofghaaGreat
open _root_.Nat renaming lt_of_lt_of_le→Bg, le_refl→Bm
open _root_.Go.RowKit.Below renaming refl→Bi
open _root_.List renaming getElem?_eq_getElem→Bk, getElem?_eq_some_iff→Bp, getElem_mem→Bv, take_of_length_le→BB, cons_append→BC, take_succ_cons→BE, mem_cons→BI, mem_append→BL, getElem?_append_right→BN, take_succ_eq_append_getElem→BO, mem_of_getElem?→BQ, isPrefixOf→BS, mem_cons_of_mem→BT, getElem?_append_left→BU, mem_cons_self→BW, flatMap_cons→BZ
open _root_.Go.Sort renaming grow→Bl
open _root_.Bool renaming eq_false_iff→BD
open Go.RowKit
section
theorem aa {p:Prop} (h:p):Hid p:=h
abbrev CR (α:Type):=World→Nat→List Value→α→Prop
structure dM {α:Type} (R:CR α):Prop where
 keep:∀ {w w':World} {B:Nat} {cs:List Value} {x:α},R w B cs x→(∀ p:Addr,p.block<B→w'.cell? p=w.cell? p)→R w' B cs x
 more:∀ {w:World} {B B':Nat} {cs:List Value} {x:α},R w B cs x→B≤B'→R w B' cs x
def AH:CR Int:=fun _ _ cs x=>cs= [.int .i64 x]
def iy:CR ByteArray:=fun _ _ cs s=>cs= [.string s]∧s.size≤maxLen
theorem aW:dM iy:=⟨fun h _=>h,fun h _=>h⟩
section
variable {α:Type} {R:CR α} {k:Nat} {w w':World} {B B':Nat} {A:Option Addr} {xs:List α}
def Sl (k:Nat) (R:CR α) (w:World) (B:Nat) (A:Option Addr) (xs:List α):Prop:=
 xs.length≤maxLen∧∀ i x,xs[i]? =some x→∃ b o ecs,A=some ⟨b,o,none⟩∧b<B∧ecs.length=k∧(∀ j u,ecs[j]? =some u→w.cell? ⟨b,o+i*k+j,none⟩=some u)∧R w B ecs x
def AF (k:Nat) (R:CR α):CR (List α):=fun w B cs xs=>∃ A cap,cs= [.slice A xs.length cap]∧Sl k R w B A xs
theorem Sl.keep (hs:dM R) (h:Sl k R w B A xs) (hk:∀ p:Addr,p.block<B→w'.cell? p=w.cell? p):Sl k R w' B A xs:=
 ⟨h.1,fun i x hx=>by
  obtain ⟨b,o,ecs,hA,hb,hl,hc,hr⟩:=h.2 i x hx
  exact ⟨b,o,ecs,hA,hb,hl,fun j u hu=>(hk _ hb).trans (hc j u hu),hs.keep hr hk⟩⟩
theorem Sl.more (hs:dM R) (h:Sl k R w B A xs) (hB:B≤B'):Sl k R w B' A xs:=
 ⟨h.1,fun i x hx=>by
  obtain ⟨b,o,ecs,hA,hb,hl,hc,hr⟩:=h.2 i x hx
  exact ⟨b,o,ecs,hA,by omega,hl,hc,hs.more hr hB⟩⟩
theorem Sl.below (hs:dM R) (h:Sl k R w B A xs) (hb:Below B w w'):Sl k R w' B A xs:=h.keep hs fun _ hp=>hb.cell hp
theorem Sl.alloc (hs:dM R) (h:Sl k R w B A xs) (hB:B≤w.heap.size) (o:Obj):Sl k R (w.alloc o) B A xs:=h.keep hs fun p hp=>World.cell?_alloc_lt w o p (by omega)
theorem Sl.nil_:Sl k R w B A ([]:List α):=⟨by simp,fun i x hx=>by simp at hx⟩
theorem Sl.len (h:Sl k R w B A xs):xs.length≤9223372036854775807:=h.1
theorem Sl.at1 (h:Sl 1 R w B A xs) {i:Nat} (hi:i<xs.length):∃ b o u,A=some ⟨b,o,none⟩∧b<B∧w.cell? ⟨b,o+i,none⟩=some u∧R w B [u] xs[i]:=by
 obtain ⟨b,o,ecs,hA,hb,hl,hc,hr⟩:=h.2 i xs[i] (Bk hi)
 match ecs,hl with
 | [u],_=>
  have:=hc 0 u rfl
  exact ⟨b,o,u,hA,hb,by simpa using this,hr⟩
theorem Sl.int {xs:List Int} (h:Sl 1 AH w B A xs) {i:Nat} (hi:i<xs.length):∃ b o,A=some ⟨b,o,none⟩∧b<B∧w.cell? ⟨b,o+i,none⟩=some (.int .i64 xs[i]):=by
 obtain ⟨b,o,u,hA,hb,hc,hr⟩:=h.at1 hi
 cases hr
 exact ⟨b,o,hA,hb,hc⟩
theorem Sl.str {xs:List ByteArray} (h:Sl 1 iy w B A xs) {i:Nat} (hi:i<xs.length):∃ b o,A=some ⟨b,o,none⟩∧b<B∧w.cell? ⟨b,o+i,none⟩=some (.string xs[i])∧xs[i].size≤maxLen:=by
 obtain ⟨b,o,u,hA,hb,hc,hr,hz⟩:=h.at1 hi
 cases hr
 exact ⟨b,o,hA,hb,hc,hz⟩
end
theorem Sl.new1 {α:Type} {R:CR α} {w:World} (xs:List α) (f:α→Value) (t:TypeId) (hl:xs.length≤maxLen) (hr:∀ x∈xs,R (w.alloc (.cells (xs.map f).toArray t)) (w.heap.size+1) [f x] x):
  Sl 1 R (w.alloc (.cells (xs.map f).toArray t)) (w.heap.size+1) (some ⟨w.heap.size,0,none⟩) xs:=by
 refine ⟨hl,fun i x hx=>⟨w.heap.size,0,[f x],rfl,by omega,rfl,fun j u hu=> ?_,hr x (BQ hx)⟩⟩
 cases j with
 |zero=>
  simp at hu;subst hu
  rw [World.cell?_alloc_at _ _ _ _ rfl]
  simp [hx]
 |succ j=>simp at hu
theorem bt {α:Type} {p:α→Bool} {xs:List α} {k:Nat} (hlt:k<xs.length) (hc:(xs.take k).any p=false) (he:p xs[k]=false):(xs.take (k+1)).any p=false:=by
 rw [BO hlt,List.any_append,hc];simp [he]
theorem l9 {α:Type} {p:α→Bool} {xs:List α} {k:Nat} (hlt:k<xs.length) (he:p xs[k]=true):xs.any p=true:=
 List.any_eq_true.2 ⟨xs[k],Bv _,he⟩
theorem bO {α:Type} {p:α→Bool} {xs:List α} {k:Nat} (hk:k≤xs.length) (hn:¬k<xs.length) (hc:(xs.take k).any p=false):xs.any p=false:=by
 rwa [BB (by omega)] at hc
theorem je {a b:Bool} (h:a=true↔b=true):Ending.returned (.bool a)=.returned (.bool b):=by rw [Bool.eq_iff_iff.2 h]
theorem ah {a b:Bool} (h:a=b):Ending.returned (.bool a)=.returned (.bool b):=by rw [h]
theorem ag {k:IntKind} {a b:Int} (h:a=b):Ending.returned (.int k a)=.returned (.int k b):=by rw [h]
theorem e9 {B:Nat} {a w:World} (h:Below B a w) (n:Nat):Below B a (w.drewN n):=⟨h.os,h.tape,h.output,h.size,h.block⟩
theorem Sl.drewN {α:Type} {R:CR α} {k:Nat} {w:World} {B:Nat} {A:Option Addr} {xs:List α} (hs:dM R) (h:Sl k R w B A xs) (n:Nat):Sl k R (w.drewN n) B A xs:=h.keep hs fun _ _=>rfl
theorem fQ (a b:ByteArray):(a.toList==b.toList)=decide (a=b):=by
 rw [ByteArray.toList_eq,ByteArray.toList_eq,Bool.eq_iff_iff]
 simp only [beq_iff_eq,decide_eq_true_eq]
 exact ⟨fun h=>Go.WideShapes.bytes_inj h,fun h=>by rw [h]⟩
theorem gC {a b:ByteArray} (h:a=b):(a.toList==b.toList)=true:=by rw [fQ];simpa using h
theorem gD {a b:ByteArray} (h:¬a=b):(a.toList==b.toList)=false:=by rw [fQ];simpa using h
theorem dQ {α:Type} {xs:List α} {n:α} {k:Nat} (hlt:k<xs.length) (hc:n∉xs.take k) (he:¬xs[k]=n):n∉xs.take (k+1):=by
 rw [BO hlt]
 intro h
 rcases BL.1 h with h|h
 ·exact hc h
 ·rw [List.mem_singleton] at h
  exact he h.symm
theorem eN {α:Type} {xs:List α} {n:α} {k:Nat} (hk:k≤xs.length) (hn:¬k<xs.length) (hc:n∉xs.take k):n∉xs:=by
 rwa [BB (by omega)] at hc
def wP {α:Type} [DecidableEq α]:List α→α→Nat
 | [],_=>0
 |x::l,a=>if x=a then 0 else wP l a+1
def bb {α:Type} [DecidableEq α] (l:List α) (a:α):Int:=if a∈l then (wP l a:Nat) else-1
theorem wQ {α:Type} [DecidableEq α] (a:α):∀ (l:List α) (k:Nat) (hk:k<l.length),a∉l.take k→l[k]=a→wP l a=k
 | [],k,hk,_,_=>absurd hk (by simp)
 |x::l,0,_,_,he=>by simp at he;simp [wP,he]
 |x::l,k+1,hk,hn,he=>by
  simp only [BE,BI,not_or] at hn
  have h1:¬x=a:=fun e=>hn.1 e.symm
  simp only [wP,if_neg h1]
  rw [wQ a l k (by simpa using hk) hn.2 (by simpa using he)]
theorem ma {α:Type} [DecidableEq α] {a:α} {l:List α} {k:Nat} (hk:k<l.length) (hn:a∉l.take k) (he:l[k]=a):bb l a=(k:Int):=by
 unfold bb
 rw [if_pos (by rw [←he];exact Bv _),wQ a l k hk hn he]
theorem mb {α:Type} [DecidableEq α] {a:α} {l:List α} (h:a∉l):bb l a= -1:=by unfold bb;rw [if_neg h]
theorem zU {α:Type} [DecidableEq α] (l:List α) (k:Nat) (hk:k<l.length):wP l l[k]≤k:=by
 induction l generalizing k with
 |nil=>simp at hk
 |cons x l ih=>
  simp only [wP]
  cases k with
  |zero=>simp
  |succ k=>
   simp only [List.getElem_cons_succ]
   split
   ·omega
   ·have:=ih k (by simpa using hk);omega
theorem pc {α:Type} [DecidableEq α] (a:α):∀ (l:List α),a∈l→wP l a<l.length
 | [],h=>by simp at h
 |x::l,h=>by
  simp only [wP]
  by_cases e:x=a
  ·rw [if_pos e];simp
  ·rw [if_neg e]
   rcases BI.1 h with h|h
   ·exact absurd h.symm e
   ·have:=pc a l h;simp;omega
theorem cM {W w1:World} (hb:Below W.heap.size W w1):(∀ b o,b<W.heap.size→w1.cell? ⟨b,o,none⟩=W.cell? ⟨b,o,none⟩)∧(∀ b o,b<W.heap.size→w1.frozen? ⟨b,o,none⟩=W.frozen? ⟨b,o,none⟩)∧W.heap.size≤w1.heap.size:=
 ⟨fun b o h=>hb.cell (p:=⟨b,o,none⟩) h,fun b o h=>hb.frozen (p:=⟨b,o,none⟩) h,hb.size⟩
theorem ac {W w1:World} (h:∃ p:Regrown,w1=Bl (redrawn W p.d) p.os):Below W.heap.size W w1:=by
 obtain ⟨p,rfl⟩:=h;exact below_regrown _ _ _
theorem cH (W:World) (d:Nat) (os:Array Obj):W.heap.size≤(Bl (redrawn W d) os).heap.size:=(below_regrown W d os).size
theorem al (w:World) (cs:Array Value) (t:TypeId):∃ wb,w.alloc (.cells cs t)=wb∧wb.heap.size=w.heap.size+1∧Below w.heap.size w wb∧(∀ i,wb.cell? ⟨w.heap.size,i,none⟩=cs[i]?)∧(∀ i,wb.frozen? ⟨w.heap.size,i,none⟩=false):=
 ⟨_,rfl,by simp,(Bi _ _).alloc (Bm _) _,fun _=>World.cell?_alloc_at _ _ _ _ rfl,fun _=>World.frozen?_alloc_at _ _ _ _ rfl⟩
theorem bx {B:Nat} {w w':World} (h:Below B w w') (a i:Nat) (hl:a<B):w'.cell? ⟨a,i,none⟩=w.cell? ⟨a,i,none⟩:=h.cell hl
theorem ss {B:Nat} {w w':World} (h:Below B w w') (a i:Nat) (hl:a<B):w'.frozen? ⟨a,i,none⟩=w.frozen? ⟨a,i,none⟩:=h.frozen hl
theorem cD {P:Program} {id:Nat} {Q:Exit→Act→World→Prop} {a:Act} {w:World} {l:List Oper} (K:wpQuiet P l.toArray (fun w'=>∃ p:Regrown,w'=Bl (redrawn w p.d) p.os) (fun a'=>∀ (w':World),(∃ p:Regrown,w'=Bl (redrawn w p.d) p.os)→Q .normal a' w') l a) (h1:P.follows .mixedOrders=true:=by kernel_rfl) (h2:Region.lexB .any l.toArray=true:=by kernel_rfl):(Code.region id l.toArray true).wp P Q a w:=wp_region_quiet_below h1 h2 K
theorem kM (w:World) (cs1:Array Value) (t1:TypeId) (cs2:Array Value) (t2:TypeId):∃ w1,w.alloc (.cells cs1 t1)=w1∧w1.heap.size=w.heap.size+1∧∃ w2,w1.alloc (.cells cs2 t2)=w2∧Hid (w2.heap.size=w1.heap.size+1)∧Hid (Below w.heap.size w w2)∧(∀ i,w2.cell? ⟨w.heap.size,i,none⟩=cs1[i]?)∧(∀ i,w2.cell? ⟨w.heap.size+1,i,none⟩=cs2[i]?)∧(∀ i,w2.frozen? ⟨w.heap.size+1,i,none⟩=false)∧w.heap.size<w2.heap.size∧w.heap.size+1<w2.heap.size:=by
 obtain ⟨w1,h1,s1,b1,c1,f1⟩:=al w cs1 t1
 obtain ⟨w2,h2,s2,b2,c2,f2⟩:=al w1 cs2 t2
 have e2:Below w2.heap.size w2 w2:=Bi _ _
 have e1:Below w1.heap.size w1 w2:=b2.trans (e2.mono (by omega))
 have hw:Below w.heap.size w w2:=b1.trans (e1.mono (by omega))
 have d1:=fun i=>(e1.cell (p:=⟨w.heap.size,i,none⟩) (by show w.heap.size<_;omega)).trans (c1 i)
 have d2:=fun i=>(e2.cell (p:=⟨w1.heap.size,i,none⟩) (by show w1.heap.size<_;omega)).trans (c2 i)
 simp only [s1] at d2 f2
 exact ⟨w1,h1,s1,w2,h2,aa s2,aa hw,d1,d2,f2,by omega,by omega⟩
theorem ql (w:World) (cs1:Array Value) (t1:TypeId) (cs2:Array Value) (t2:TypeId) (cs3:Array Value) (t3:TypeId):∃ w1,w.alloc (.cells cs1 t1)=w1∧w1.heap.size=w.heap.size+1∧∃ w2,w1.alloc (.cells cs2 t2)=w2∧w2.heap.size=w1.heap.size+1∧∃ w3,w2.alloc (.cells cs3 t3)=w3∧Hid (w3.heap.size=w2.heap.size+1)∧Hid (Below w.heap.size w w3)∧(∀ i,w3.cell? ⟨w.heap.size,i,none⟩=cs1[i]?)∧(∀ i,w3.cell? ⟨w.heap.size+1,i,none⟩=cs2[i]?)∧(∀ i,w3.cell? ⟨w.heap.size+1+1,i,none⟩=cs3[i]?)∧(∀ i,w3.frozen? ⟨w.heap.size+1+1,i,none⟩=false)∧w.heap.size<w3.heap.size∧w.heap.size+1<w3.heap.size∧w.heap.size+1+1<w3.heap.size:=by
 obtain ⟨w1,h1,s1,b1,c1,f1⟩:=al w cs1 t1
 obtain ⟨w2,h2,s2,b2,c2,f2⟩:=al w1 cs2 t2
 obtain ⟨w3,h3,s3,b3,c3,f3⟩:=al w2 cs3 t3
 have e3:Below w3.heap.size w3 w3:=Bi _ _
 have e2:Below w2.heap.size w2 w3:=b3.trans (e3.mono (by omega))
 have e1:Below w1.heap.size w1 w3:=b2.trans (e2.mono (by omega))
 have hw:Below w.heap.size w w3:=b1.trans (e1.mono (by omega))
 have d1:=fun i=>(e1.cell (p:=⟨w.heap.size,i,none⟩) (by show w.heap.size<_;omega)).trans (c1 i)
 have d2:=fun i=>(e2.cell (p:=⟨w1.heap.size,i,none⟩) (by show w1.heap.size<_;omega)).trans (c2 i)
 have d3:=fun i=>(e3.cell (p:=⟨w2.heap.size,i,none⟩) (by show w2.heap.size<_;omega)).trans (c3 i)
 simp only [s1] at d2
 simp only [s2,s1] at d3 f3
 exact ⟨w1,h1,s1,w2,h2,s2,w3,h3,aa s3,aa hw,d1,d2,d3,f3,by omega,by omega,by omega⟩
theorem AZ (w:World) (cs1:Array Value) (t1:TypeId) (cs2:Array Value) (t2:TypeId) (cs3:Array Value) (t3:TypeId) (cs4:Array Value) (t4:TypeId) (cs5:Array Value) (t5:TypeId):∃ w1,w.alloc (.cells cs1 t1)=w1∧w1.heap.size=w.heap.size+1∧∃ w2,w1.alloc (.cells cs2 t2)=w2∧w2.heap.size=w1.heap.size+1∧∃ w3,w2.alloc (.cells cs3 t3)=w3∧w3.heap.size=w2.heap.size+1∧∃ w4,w3.alloc (.cells cs4 t4)=w4∧w4.heap.size=w3.heap.size+1∧∃ w5,w4.alloc (.cells cs5 t5)=w5∧Hid (w5.heap.size=w4.heap.size+1)∧Hid (Below w.heap.size w w5)∧(∀ i,w5.cell? ⟨w.heap.size,i,none⟩=cs1[i]?)∧(∀ i,w5.cell? ⟨w.heap.size+1,i,none⟩=cs2[i]?)∧(∀ i,w5.cell? ⟨w.heap.size+1+1,i,none⟩=cs3[i]?)∧(∀ i,w5.cell? ⟨w.heap.size+1+1+1,i,none⟩=cs4[i]?)∧(∀ i,w5.cell? ⟨w.heap.size+1+1+1+1,i,none⟩=cs5[i]?)∧(∀ i,w5.frozen? ⟨w.heap.size+1+1+1+1,i,none⟩=false)∧w.heap.size<w5.heap.size∧w.heap.size+1<w5.heap.size∧w.heap.size+1+1<w5.heap.size∧w.heap.size+1+1+1<w5.heap.size∧w.heap.size+1+1+1+1<w5.heap.size:=by
 obtain ⟨w1,h1,s1,b1,c1,f1⟩:=al w cs1 t1
 obtain ⟨w2,h2,s2,b2,c2,f2⟩:=al w1 cs2 t2
 obtain ⟨w3,h3,s3,b3,c3,f3⟩:=al w2 cs3 t3
 obtain ⟨w4,h4,s4,b4,c4,f4⟩:=al w3 cs4 t4
 obtain ⟨w5,h5,s5,b5,c5,f5⟩:=al w4 cs5 t5
 have e5:Below w5.heap.size w5 w5:=Bi _ _
 have e4:Below w4.heap.size w4 w5:=b5.trans (e5.mono (by omega))
 have e3:Below w3.heap.size w3 w5:=b4.trans (e4.mono (by omega))
 have e2:Below w2.heap.size w2 w5:=b3.trans (e3.mono (by omega))
 have e1:Below w1.heap.size w1 w5:=b2.trans (e2.mono (by omega))
 have hw:Below w.heap.size w w5:=b1.trans (e1.mono (by omega))
 have d1:=fun i=>(e1.cell (p:=⟨w.heap.size,i,none⟩) (by show w.heap.size<_;omega)).trans (c1 i)
 have d2:=fun i=>(e2.cell (p:=⟨w1.heap.size,i,none⟩) (by show w1.heap.size<_;omega)).trans (c2 i)
 have d3:=fun i=>(e3.cell (p:=⟨w2.heap.size,i,none⟩) (by show w2.heap.size<_;omega)).trans (c3 i)
 have d4:=fun i=>(e4.cell (p:=⟨w3.heap.size,i,none⟩) (by show w3.heap.size<_;omega)).trans (c4 i)
 have d5:=fun i=>(e5.cell (p:=⟨w4.heap.size,i,none⟩) (by show w4.heap.size<_;omega)).trans (c5 i)
 simp only [s1] at d2
 simp only [s2,s1] at d3
 simp only [s3,s2,s1] at d4
 simp only [s4,s3,s2,s1] at d5 f5
 exact ⟨w1,h1,s1,w2,h2,s2,w3,h3,s3,w4,h4,s4,w5,h5,aa s5,aa hw,d1,d2,d3,d4,d5,f5,by omega,by omega,by omega,by omega,by omega⟩
theorem ic (w:World) (cs:Array Value) (t:TypeId) (cs':Array Value) (t':TypeId):∃ wa,w.alloc (.cells cs t)=wa∧wa.heap.size=w.heap.size+1∧∃ wb,wa.alloc (.cells cs' t')=wb∧wb.heap.size=wa.heap.size+1∧Below w.heap.size w wb∧(∀ i,wb.cell? ⟨w.heap.size,i,none⟩=cs[i]?)∧(∀ i,wb.cell? ⟨w.heap.size+1,i,none⟩=cs'[i]?):=by
 obtain ⟨wa,h1,s1,wb,h2,s2,hw,d1,d2,-,-,-⟩:=kM w cs t cs' t'
 exact ⟨wa,h1,s1,wb,h2,s2.out,hw.out,d1,d2⟩
theorem ax {B:Nat} {wb wr:World} (h:Below B wb wr) (hz:B≤wr.heap.size):∀ d os b o,b<B→(Bl (redrawn wr d) os).cell? ⟨b,o,none⟩=wb.cell? ⟨b,o,none⟩:=
 fun d os b o hb=>((below_regrown wr d os).cell (p:=⟨b,o,none⟩) (Bg hb hz)).trans (h.cell hb)
theorem ab {B:Nat} {wb wr:World} (h:Below B wb wr):(∀ b o,b<B→wr.cell? ⟨b,o,none⟩=wb.cell? ⟨b,o,none⟩)∧(∀ b o,b<B→wr.frozen? ⟨b,o,none⟩=wb.frozen? ⟨b,o,none⟩):=
 ⟨fun b o hb=>h.cell (p:=⟨b,o,none⟩) hb,fun b o hb=>h.frozen (p:=⟨b,o,none⟩) hb⟩
theorem aA {B:Nat} {wb wr:World} (h:Below B wb wr) (hz:B≤wr.heap.size) (d:Nat) (os:Array Obj):Below B wb (Bl (redrawn wr d) os):=h.trans ((below_regrown wr d os).mono hz)
theorem kN {α:Type} {f:α→List Value} {k:Nat} (hf:∀ x,(f x).length=k):∀ (xs:List α) (i j:Nat) (x:α) (u:Value),xs[i]? =some x→(f x)[j]? =some u→(xs.flatMap f)[i*k+j]? =some u
 | [],i,j,x,u,h,_=>by simp at h
 |y::xs,0,j,x,u,h,hu=>by
  simp at h;subst h
  have:j<(f y).length:=(Bp.1 hu).1
  simp [BZ,BU this,hu]
 |y::xs,i+1,j,x,u,h,hu=>by
  have ih:=kN hf xs i j x u (by simpa using h) hu
  have hy:=hf y
  rw [BZ,BN (by rw [hy,Nat.add_mul];omega),←ih]
  congr 1
  rw [hy,Nat.add_mul];omega
theorem tZ {w:World}:Below w.heap.size w w:=Bi _ _
theorem bF {w:World} {a:Nat} {v0 v1 v2:Value} (h:∀ i,w.cell? ⟨a,i,none⟩=(#[v0,v1,v2]:Array Value)[i]?):
  w.cell? ⟨a,0,none⟩=some v0∧w.cell? ⟨a,1,none⟩=some v1∧w.cell? ⟨a,2,none⟩=some v2:=
 ⟨h 0,h 1,h 2⟩
theorem dl {w:World} {b m:Nat} {v0 v1 v2:Value} (h:∀ j u,([v0,v1,v2]:List Value)[j]? =some u→w.cell? ⟨b,m+j,none⟩=some u):
  w.cell? ⟨b,m,none⟩=some v0∧w.cell? ⟨b,m+1,none⟩=some v1∧w.cell? ⟨b,m+2,none⟩=some v2:=
 ⟨h 0 _ rfl,h 1 _ rfl,h 2 _ rfl⟩
theorem fR {w:World} {a:Nat} {v0 v1 v2 v3 v4:Value} (h:∀ i,w.cell? ⟨a,i,none⟩=(#[v0,v1,v2,v3,v4]:Array Value)[i]?):
  w.cell? ⟨a,0,none⟩=some v0∧w.cell? ⟨a,1,none⟩=some v1∧w.cell? ⟨a,2,none⟩=some v2∧w.cell? ⟨a,3,none⟩=some v3∧w.cell? ⟨a,4,none⟩=some v4:=
 ⟨h 0,h 1,h 2,h 3,h 4⟩
theorem cN {w:World} {b m:Nat} {v0 v1 v2 v3 v4:Value} (h:∀ j u,([v0,v1,v2,v3,v4]:List Value)[j]? =some u→w.cell? ⟨b,m+j,none⟩=some u):
  w.cell? ⟨b,m,none⟩=some v0∧w.cell? ⟨b,m+1,none⟩=some v1∧w.cell? ⟨b,m+2,none⟩=some v2∧w.cell? ⟨b,m+3,none⟩=some v3∧w.cell? ⟨b,m+4,none⟩=some v4:=
 ⟨h 0 _ rfl,h 1 _ rfl,h 2 _ rfl,h 3 _ rfl,h 4 _ rfl⟩
theorem aF {w:World} {a:Nat} {v0 v1 v2 v3 v4 v5 v6:Value} (h:∀ i,w.cell? ⟨a,i,none⟩=(#[v0,v1,v2,v3,v4,v5,v6]:Array Value)[i]?):
  w.cell? ⟨a,0,none⟩=some v0∧w.cell? ⟨a,1,none⟩=some v1∧w.cell? ⟨a,2,none⟩=some v2∧w.cell? ⟨a,3,none⟩=some v3∧w.cell? ⟨a,4,none⟩=some v4∧w.cell? ⟨a,5,none⟩=some v5∧w.cell? ⟨a,6,none⟩=some v6:=
 ⟨h 0,h 1,h 2,h 3,h 4,h 5,h 6⟩
theorem wR {w:World} {b m:Nat} {v0 v1 v2 v3 v4 v5 v6:Value} (h:∀ j u,([v0,v1,v2,v3,v4,v5,v6]:List Value)[j]? =some u→w.cell? ⟨b,m+j,none⟩=some u):
  w.cell? ⟨b,m,none⟩=some v0∧w.cell? ⟨b,m+1,none⟩=some v1∧w.cell? ⟨b,m+2,none⟩=some v2∧w.cell? ⟨b,m+3,none⟩=some v3∧w.cell? ⟨b,m+4,none⟩=some v4∧w.cell? ⟨b,m+5,none⟩=some v5∧w.cell? ⟨b,m+6,none⟩=some v6:=
 ⟨h 0 _ rfl,h 1 _ rfl,h 2 _ rfl,h 3 _ rfl,h 4 _ rfl,h 5 _ rfl,h 6 _ rfl⟩
theorem bU {w:World} {a:Nat} {v0 v1 v2 v3 v4 v5 v6 v7 v8:Value} (h:∀ i,w.cell? ⟨a,i,none⟩=(#[v0,v1,v2,v3,v4,v5,v6,v7,v8]:Array Value)[i]?):
  w.cell? ⟨a,0,none⟩=some v0∧w.cell? ⟨a,1,none⟩=some v1∧w.cell? ⟨a,2,none⟩=some v2∧w.cell? ⟨a,3,none⟩=some v3∧w.cell? ⟨a,4,none⟩=some v4∧w.cell? ⟨a,5,none⟩=some v5∧w.cell? ⟨a,6,none⟩=some v6∧w.cell? ⟨a,7,none⟩=some v7∧w.cell? ⟨a,8,none⟩=some v8:=
 ⟨h 0,h 1,h 2,h 3,h 4,h 5,h 6,h 7,h 8⟩
theorem cl {w:World} {b m:Nat} {v0 v1 v2 v3 v4 v5 v6 v7 v8:Value} (h:∀ j u,([v0,v1,v2,v3,v4,v5,v6,v7,v8]:List Value)[j]? =some u→w.cell? ⟨b,m+j,none⟩=some u):
  w.cell? ⟨b,m,none⟩=some v0∧w.cell? ⟨b,m+1,none⟩=some v1∧w.cell? ⟨b,m+2,none⟩=some v2∧w.cell? ⟨b,m+3,none⟩=some v3∧w.cell? ⟨b,m+4,none⟩=some v4∧w.cell? ⟨b,m+5,none⟩=some v5∧w.cell? ⟨b,m+6,none⟩=some v6∧w.cell? ⟨b,m+7,none⟩=some v7∧w.cell? ⟨b,m+8,none⟩=some v8:=
 ⟨h 0 _ rfl,h 1 _ rfl,h 2 _ rfl,h 3 _ rfl,h 4 _ rfl,h 5 _ rfl,h 6 _ rfl,h 7 _ rfl,h 8 _ rfl⟩
theorem zN {w:World} {a:Nat} {v0 v1 v2 v3 v4 v5 v6 v7 v8 v9:Value} (h:∀ i,w.cell? ⟨a,i,none⟩=(#[v0,v1,v2,v3,v4,v5,v6,v7,v8,v9]:Array Value)[i]?):
  w.cell? ⟨a,0,none⟩=some v0∧w.cell? ⟨a,1,none⟩=some v1∧w.cell? ⟨a,2,none⟩=some v2∧w.cell? ⟨a,3,none⟩=some v3∧w.cell? ⟨a,4,none⟩=some v4∧w.cell? ⟨a,5,none⟩=some v5∧w.cell? ⟨a,6,none⟩=some v6∧w.cell? ⟨a,7,none⟩=some v7∧w.cell? ⟨a,8,none⟩=some v8∧w.cell? ⟨a,9,none⟩=some v9:=
 ⟨h 0,h 1,h 2,h 3,h 4,h 5,h 6,h 7,h 8,h 9⟩
theorem jU {w:World} {b m:Nat} {v0 v1 v2 v3 v4 v5 v6 v7 v8 v9:Value} (h:∀ j u,([v0,v1,v2,v3,v4,v5,v6,v7,v8,v9]:List Value)[j]? =some u→w.cell? ⟨b,m+j,none⟩=some u):
  w.cell? ⟨b,m,none⟩=some v0∧w.cell? ⟨b,m+1,none⟩=some v1∧w.cell? ⟨b,m+2,none⟩=some v2∧w.cell? ⟨b,m+3,none⟩=some v3∧w.cell? ⟨b,m+4,none⟩=some v4∧w.cell? ⟨b,m+5,none⟩=some v5∧w.cell? ⟨b,m+6,none⟩=some v6∧w.cell? ⟨b,m+7,none⟩=some v7∧w.cell? ⟨b,m+8,none⟩=some v8∧w.cell? ⟨b,m+9,none⟩=some v9:=
 ⟨h 0 _ rfl,h 1 _ rfl,h 2 _ rfl,h 3 _ rfl,h 4 _ rfl,h 5 _ rfl,h 6 _ rfl,h 7 _ rfl,h 8 _ rfl,h 9 _ rfl⟩
theorem dm {w:World} {a:Nat} {v0 v1 v2 v3 v4 v5 v6 v7 v8 v9 v10 v11 v12 v13:Value} (h:∀ i,w.cell? ⟨a,i,none⟩=(#[v0,v1,v2,v3,v4,v5,v6,v7,v8,v9,v10,v11,v12,v13]:Array Value)[i]?):
  w.cell? ⟨a,0,none⟩=some v0∧w.cell? ⟨a,1,none⟩=some v1∧w.cell? ⟨a,2,none⟩=some v2∧w.cell? ⟨a,3,none⟩=some v3∧w.cell? ⟨a,4,none⟩=some v4∧w.cell? ⟨a,5,none⟩=some v5∧w.cell? ⟨a,6,none⟩=some v6∧w.cell? ⟨a,7,none⟩=some v7∧w.cell? ⟨a,8,none⟩=some v8∧w.cell? ⟨a,9,none⟩=some v9∧w.cell? ⟨a,10,none⟩=some v10∧w.cell? ⟨a,11,none⟩=some v11∧w.cell? ⟨a,12,none⟩=some v12∧w.cell? ⟨a,13,none⟩=some v13:=
 ⟨h 0,h 1,h 2,h 3,h 4,h 5,h 6,h 7,h 8,h 9,h 10,h 11,h 12,h 13⟩
theorem su {w:World} {b m:Nat} {v0 v1 v2 v3 v4 v5 v6 v7 v8 v9 v10 v11 v12 v13:Value} (h:∀ j u,([v0,v1,v2,v3,v4,v5,v6,v7,v8,v9,v10,v11,v12,v13]:List Value)[j]? =some u→w.cell? ⟨b,m+j,none⟩=some u):
  w.cell? ⟨b,m,none⟩=some v0∧w.cell? ⟨b,m+1,none⟩=some v1∧w.cell? ⟨b,m+2,none⟩=some v2∧w.cell? ⟨b,m+3,none⟩=some v3∧w.cell? ⟨b,m+4,none⟩=some v4∧w.cell? ⟨b,m+5,none⟩=some v5∧w.cell? ⟨b,m+6,none⟩=some v6∧w.cell? ⟨b,m+7,none⟩=some v7∧w.cell? ⟨b,m+8,none⟩=some v8∧w.cell? ⟨b,m+9,none⟩=some v9∧w.cell? ⟨b,m+10,none⟩=some v10∧w.cell? ⟨b,m+11,none⟩=some v11∧w.cell? ⟨b,m+12,none⟩=some v12∧w.cell? ⟨b,m+13,none⟩=some v13:=
 ⟨h 0 _ rfl,h 1 _ rfl,h 2 _ rfl,h 3 _ rfl,h 4 _ rfl,h 5 _ rfl,h 6 _ rfl,h 7 _ rfl,h 8 _ rfl,h 9 _ rfl,h 10 _ rfl,h 11 _ rfl,h 12 _ rfl,h 13 _ rfl⟩
theorem bv {w:World} {a:Nat} {v0 v1 v2 v3 v4 v5 v6 v7 v8 v9 v10 v11 v12 v13 v14 v15 v16:Value} (h:∀ i,w.cell? ⟨a,i,none⟩=(#[v0,v1,v2,v3,v4,v5,v6,v7,v8,v9,v10,v11,v12,v13,v14,v15,v16]:Array Value)[i]?):
  w.cell? ⟨a,0,none⟩=some v0∧w.cell? ⟨a,1,none⟩=some v1∧w.cell? ⟨a,2,none⟩=some v2∧w.cell? ⟨a,3,none⟩=some v3∧w.cell? ⟨a,4,none⟩=some v4∧w.cell? ⟨a,5,none⟩=some v5∧w.cell? ⟨a,6,none⟩=some v6∧w.cell? ⟨a,7,none⟩=some v7∧w.cell? ⟨a,8,none⟩=some v8∧w.cell? ⟨a,9,none⟩=some v9∧w.cell? ⟨a,10,none⟩=some v10∧w.cell? ⟨a,11,none⟩=some v11∧w.cell? ⟨a,12,none⟩=some v12∧w.cell? ⟨a,13,none⟩=some v13∧w.cell? ⟨a,14,none⟩=some v14∧w.cell? ⟨a,15,none⟩=some v15∧w.cell? ⟨a,16,none⟩=some v16:=
 ⟨h 0,h 1,h 2,h 3,h 4,h 5,h 6,h 7,h 8,h 9,h 10,h 11,h 12,h 13,h 14,h 15,h 16⟩
theorem sx {w:World} {b m:Nat} {v0 v1 v2 v3 v4 v5 v6 v7 v8 v9 v10 v11 v12 v13 v14 v15 v16:Value} (h:∀ j u,([v0,v1,v2,v3,v4,v5,v6,v7,v8,v9,v10,v11,v12,v13,v14,v15,v16]:List Value)[j]? =some u→w.cell? ⟨b,m+j,none⟩=some u):
  w.cell? ⟨b,m,none⟩=some v0∧w.cell? ⟨b,m+1,none⟩=some v1∧w.cell? ⟨b,m+2,none⟩=some v2∧w.cell? ⟨b,m+3,none⟩=some v3∧w.cell? ⟨b,m+4,none⟩=some v4∧w.cell? ⟨b,m+5,none⟩=some v5∧w.cell? ⟨b,m+6,none⟩=some v6∧w.cell? ⟨b,m+7,none⟩=some v7∧w.cell? ⟨b,m+8,none⟩=some v8∧w.cell? ⟨b,m+9,none⟩=some v9∧w.cell? ⟨b,m+10,none⟩=some v10∧w.cell? ⟨b,m+11,none⟩=some v11∧w.cell? ⟨b,m+12,none⟩=some v12∧w.cell? ⟨b,m+13,none⟩=some v13∧w.cell? ⟨b,m+14,none⟩=some v14∧w.cell? ⟨b,m+15,none⟩=some v15∧w.cell? ⟨b,m+16,none⟩=some v16:=
 ⟨h 0 _ rfl,h 1 _ rfl,h 2 _ rfl,h 3 _ rfl,h 4 _ rfl,h 5 _ rfl,h 6 _ rfl,h 7 _ rfl,h 8 _ rfl,h 9 _ rfl,h 10 _ rfl,h 11 _ rfl,h 12 _ rfl,h 13 _ rfl,h 14 _ rfl,h 15 _ rfl,h 16 _ rfl⟩
end
abbrev Lt:=Int×Int×Int
inductive Ex where
 |mk (op:Int) (lit:Lt) (head name:ByteArray) (hi lo:Int) (args:List Ex)
inductive St where
 |mk (kind:Int) (head name:ByteArray) (e:Ex) (thn els:List St)
theorem Ex.ind {P:Ex→Prop} (h:∀ op lit head name hi lo args,(∀ x∈args,P x)→P (.mk op lit head name hi lo args)):∀ e,P e
 | .mk op lit head name hi lo args=>h op lit head name hi lo args fun x _=>Ex.ind h x
theorem St.ind {P:St→Prop} (h:∀ kind head name e thn els,(∀ x∈thn,P x)→(∀ x∈els,P x)→P (.mk kind head name e thn els)):∀ s,P s
 | .mk kind head name e thn els=>h kind head name e thn els (fun x _=>St.ind h x) (fun x _=>St.ind h x)
def ei (n:Int):Prop:=0≤n∧n<18446744073709551616
def u8 (n:Int):Prop:=0≤n∧n<256
def nz (n:Int):Prop:= -9223372036854775808≤n∧n<9223372036854775808
def em (l:Lt):Prop:=nz l.1∧ei l.2.1∧ei l.2.2
def AJ (l:Lt):List Value:= [.int .i64 l.1,.int .u64 l.2.1,.int .u64 l.2.2]
def Ap:CR Lt:=fun _ _ cs l=>cs=AJ l∧em l
theorem mc:dM Ap:=⟨fun h _=>h,fun h _=>h⟩
def uA (op:Int) (lit:Lt) (head name:ByteArray) (hi lo:Int) (A:Option Addr) (n cap:Nat):List Value:=
 [.int .u8 op,.int .i64 lit.1,.int .u64 lit.2.1,.int .u64 lit.2.2,.string head,.string name,.int .i64 hi,.int .i64 lo,.slice A n cap]
inductive RE (w:World) (B:Nat):List Value→Ex→Prop
 |mk (op:Int) (lit:Lt) (head name:ByteArray) (hi lo:Int) (args:List Ex) (A:Option Addr) (cap b o:Nat) (C:Nat→List Value)
   (h0:u8 op∧em lit∧head.size≤maxLen∧name.size≤maxLen∧nz hi∧nz lo) (hl:args.length≤maxLen)
   (hA:∀ i,i<args.length→A=some ⟨b,o,none⟩∧b<B∧(C i).length=9∧∀ j u,(C i)[j]? =some u→w.cell? ⟨b,o+i*9+j,none⟩=some u)
   (h:∀ i x,args[i]? =some x→RE w B (C i) x):RE w B (uA op lit head name hi lo A args.length cap) (.mk op lit head name hi lo args)
def sm:Nat:=1048576
mutual
def bQ:Ex→Nat
 | .mk _ _ _ _ _ _ args=>bC args+1
def bC:List Ex→Nat
 | []=>0
 |x::l=>max (bQ x) (bC l)
end
theorem jV {x:Ex}:∀ {l:List Ex},x∈l→bQ x≤bC l
 | [],h=>by simp at h
 |y::l,h=>by
  simp only [bC]
  rcases BI.1 h with rfl|h
  ·omega
  ·have:=jV h;omega
def dL:CR Ex:=fun w B cs e=>RE w B cs e∧bQ e≤sm
theorem RE.keep {w w':World} {B:Nat} {cs:List Value} {x:Ex} (hk:∀ p:Addr,p.block<B→w'.cell? p=w.cell? p) (h:RE w B cs x):RE w' B cs x:=by
 induction h with
 |mk op lit head name hi lo args A cap b o C h0 hl hA _ ih=>
  exact .mk op lit head name hi lo args A cap b o C h0 hl (fun i hi=>⟨(hA i hi).1,(hA i hi).2.1,(hA i hi).2.2.1,fun j u hu=>(hk _ (hA i hi).2.1).trans ((hA i hi).2.2.2 j u hu)⟩) ih
theorem RE.more {w:World} {B B':Nat} {cs:List Value} {x:Ex} (hB:B≤B') (h:RE w B cs x):RE w B' cs x:=by
 induction h with
 |mk op lit head name hi lo args A cap b o C h0 hl hA _ ih=>
  exact .mk op lit head name hi lo args A cap b o C h0 hl (fun i hi=>⟨(hA i hi).1,Bg (hA i hi).2.1 hB,(hA i hi).2.2⟩) ih
theorem ai:dM dL:=⟨fun h hk=>⟨RE.keep hk h.1,h.2⟩,fun h hB=>⟨RE.more hB h.1,h.2⟩⟩
theorem RE.inv {w:World} {B:Nat} {cs:List Value} {op:Int} {lit:Lt} {head name:ByteArray} {hi lo:Int} {args:List Ex} (h:dL w B cs (.mk op lit head name hi lo args)):
  ∃ A cap,cs=uA op lit head name hi lo A args.length cap∧u8 op∧em lit∧head.size≤maxLen∧name.size≤maxLen∧nz hi∧nz lo∧Sl 9 dL w B A args:=by
 obtain ⟨h,hd⟩:=h
 cases h with
 |mk _ _ _ _ _ _ _ A cap b o C h0 hl hA h=>
  refine ⟨A,cap,rfl,h0.1,h0.2.1,h0.2.2.1,h0.2.2.2.1,h0.2.2.2.2.1,h0.2.2.2.2.2,hl,fun i x hx=> ?_⟩
  have:=hA i (Bp.1 hx).1
  have hdx:=jV (BQ hx)
  simp only [bQ] at hd
  exact ⟨b,o,C i,this.1,this.2.1,this.2.2.1,this.2.2.2,h i x hx,by omega⟩
theorem sy {α:Type} {p:Nat→α→Prop} (d:α) (n:Nat) (h:∀ i,i<n→∃ a,p i a):∃ C:Nat→α,∀ i,i<n→p i (C i):=
 ⟨fun i=>if hi:i<n then (h i hi).choose else d,fun i hi=>by show p i (if hi:i<n then (h i hi).choose else d);rw [dif_pos hi];exact (h i hi).choose_spec⟩
theorem Sl.rows {α:Type} {R:CR α} {k:Nat} {w:World} {B:Nat} {A:Option Addr} {xs:List α} (h:Sl k R w B A xs):
  ∃ (b o:Nat) (C:Nat→List Value),(∀ i,i<xs.length→A=some ⟨b,o,none⟩∧b<B∧(C i).length=k∧∀ j u,(C i)[j]? =some u→w.cell? ⟨b,o+i*k+j,none⟩=some u)∧∀ i x,xs[i]? =some x→R w B (C i) x:=by
 by_cases hz:0<xs.length
 ·obtain ⟨b,o,_,hA,hb,_⟩:=h.2 0 _ (Bk hz)
  obtain ⟨C,hC⟩:=sy (p:=fun i cs=>cs.length=k∧(∀ j u,cs[j]? =some u→w.cell? ⟨b,o+i*k+j,none⟩=some u)∧∀ x,xs[i]? =some x→R w B cs x) [] xs.length (fun i hi=>by
   obtain ⟨b',o',ecs,hA',hb',hl,hc,hr⟩:=h.2 i _ (Bk hi)
   rw [hA] at hA'
   injection hA' with hA'
   injection hA' with e1 e2
   subst e1 e2
   exact ⟨ecs,hl,hc,fun x hx=>by rw [Bk hi] at hx;injection hx with hx;subst hx;exact hr⟩)
  exact ⟨b,o,C,fun i hi=>⟨hA,hb,(hC i hi).1,(hC i hi).2.1⟩,fun i x hx=>(hC i (Bp.1 hx).1).2.2 x hx⟩
 ·exact ⟨0,0,fun _=> [],fun i hi=>absurd hi (by omega),fun i x hx=>absurd (Bp.1 hx).1 (by omega)⟩
theorem RE.intro {w:World} {B:Nat} {op:Int} {lit:Lt} {head name:ByteArray} {hi lo:Int} {args:List Ex} {A:Option Addr} {cap:Nat}
  (h0:u8 op∧em lit∧head.size≤maxLen∧name.size≤maxLen∧nz hi∧nz lo) (hd:bC args<sm) (h:Sl 9 dL w B A args):dL w B (uA op lit head name hi lo A args.length cap) (.mk op lit head name hi lo args):=by
 obtain ⟨b,o,C,hA,hC⟩:=h.rows
 exact ⟨.mk op lit head name hi lo args A cap b o C h0 h.1 hA fun i x hx=>(hC i x hx).1,by simp only [bQ];omega⟩
def yu (kind:Int) (head name:ByteArray) (ecs:List Value) (A:Option Addr) (n cap:Nat) (A':Option Addr) (n' cap':Nat):List Value:=
 .int .u8 kind:: .string head:: .string name::(ecs++ [.slice A n cap,.slice A' n' cap'])
inductive RS (w:World) (B:Nat):List Value→St→Prop
 |mk (kind:Int) (head name:ByteArray) (e:Ex) (thn els:List St) (ecs:List Value) (A A':Option Addr) (cap cap' b o b' o':Nat) (C C':Nat→List Value)
   (h0:u8 kind∧head.size≤sm∧name.size≤sm) (hz:thn.length≤sm∧els.length≤sm) (he:RE w B ecs e∧bQ e≤sm) (hl:thn.length≤maxLen) (hl':els.length≤maxLen)
   (hA:∀ i,i<thn.length→A=some ⟨b,o,none⟩∧b<B∧(C i).length=14∧∀ j u,(C i)[j]? =some u→w.cell? ⟨b,o+i*14+j,none⟩=some u)
   (hA':∀ i,i<els.length→A'=some ⟨b',o',none⟩∧b'<B∧(C' i).length=14∧∀ j u,(C' i)[j]? =some u→w.cell? ⟨b',o'+i*14+j,none⟩=some u)
   (h:∀ i x,thn[i]? =some x→RS w B (C i) x) (h':∀ i x,els[i]? =some x→RS w B (C' i) x):
   RS w B (yu kind head name ecs A thn.length cap A' els.length cap') (.mk kind head name e thn els)
def dR:CR St:=fun w B cs s=>RS w B cs s
theorem RS.keep {w w':World} {B:Nat} {cs:List Value} {x:St} (hk:∀ p:Addr,p.block<B→w'.cell? p=w.cell? p) (h:RS w B cs x):RS w' B cs x:=by
 induction h with
 |mk kind head name e thn els ecs A A' cap cap' b o b' o' C C' h0 hz he hl hl' hA hA' _ _ ih ih'=>
  exact .mk kind head name e thn els ecs A A' cap cap' b o b' o' C C' h0 hz ⟨he.1.keep hk,he.2⟩ hl hl' (fun i hi=>⟨(hA i hi).1,(hA i hi).2.1,(hA i hi).2.2.1,fun j u hu=>(hk _ (hA i hi).2.1).trans ((hA i hi).2.2.2 j u hu)⟩)
   (fun i hi=>⟨(hA' i hi).1,(hA' i hi).2.1,(hA' i hi).2.2.1,fun j u hu=>(hk _ (hA' i hi).2.1).trans ((hA' i hi).2.2.2 j u hu)⟩) ih ih'
theorem RS.more {w:World} {B B':Nat} {cs:List Value} {x:St} (hB:B≤B') (h:RS w B cs x):RS w B' cs x:=by
 induction h with
 |mk kind head name e thn els ecs A A' cap cap' b o b' o' C C' h0 hz he hl hl' hA hA' _ _ ih ih'=>
  exact .mk kind head name e thn els ecs A A' cap cap' b o b' o' C C' h0 hz ⟨he.1.more hB,he.2⟩ hl hl' (fun i hi=>⟨(hA i hi).1,Bg (hA i hi).2.1 hB,(hA i hi).2.2⟩)
   (fun i hi=>⟨(hA' i hi).1,Bg (hA' i hi).2.1 hB,(hA' i hi).2.2⟩) ih ih'
theorem be:dM dR:=⟨fun h hk=>RS.keep hk h,fun h hB=>RS.more hB h⟩
theorem RS.inv {w:World} {B:Nat} {cs:List Value} {kind:Int} {head name:ByteArray} {e:Ex} {thn els:List St} (h:dR w B cs (.mk kind head name e thn els)):
  ∃ ecs A cap A' cap',cs=yu kind head name ecs A thn.length cap A' els.length cap'∧u8 kind∧head.size≤sm∧name.size≤sm∧dL w B ecs e∧Sl 14 dR w B A thn∧Sl 14 dR w B A' els:=by
 cases h with
 |mk _ _ _ _ _ _ ecs A A' cap cap' b o b' o' C C' h0 hz he hl hl' hA hA' h h'=>
  refine ⟨ecs,A,cap,A',cap',rfl,h0.1,h0.2.1,h0.2.2,he,⟨hl,fun i x hx=> ?_⟩,⟨hl',fun i x hx=> ?_⟩⟩
  ·have:=hA i (Bp.1 hx).1
   exact ⟨b,o,C i,this.1,this.2.1,this.2.2.1,this.2.2.2,h i x hx⟩
  ·have:=hA' i (Bp.1 hx).1
   exact ⟨b',o',C' i,this.1,this.2.1,this.2.2.1,this.2.2.2,h' i x hx⟩
theorem RS.small {w:World} {B:Nat} {cs:List Value} {kind:Int} {head name:ByteArray} {e:Ex} {thn els:List St} (h:dR w B cs (.mk kind head name e thn els)):thn.length≤sm∧els.length≤sm:=by
 cases h with
 |mk _ _ _ _ _ _ ecs A A' cap cap' b o b' o' C C' h0 hz he hl hl' hA hA' h h'=>exact hz
theorem RS.intro {w:World} {B:Nat} {kind:Int} {head name:ByteArray} {e:Ex} {thn els:List St} {ecs:List Value} {A A':Option Addr} {cap cap':Nat}
  (h0:u8 kind∧head.size≤sm∧name.size≤sm) (hz:thn.length≤sm∧els.length≤sm) (he:dL w B ecs e) (h:Sl 14 dR w B A thn) (h':Sl 14 dR w B A' els):
  dR w B (yu kind head name ecs A thn.length cap A' els.length cap') (.mk kind head name e thn els):=by
 obtain ⟨b,o,C,hA,hC⟩:=h.rows
 obtain ⟨b',o',C',hA',hC'⟩:=h'.rows
 exact .mk kind head name e thn els ecs A A' cap cap' b o b' o' C C' h0 hz he h.1 h'.1 hA hA' hC hC'
abbrev Fd:=ByteArray×Int
def sq:CR Fd:=fun _ _ cs f=>cs= [.string f.1,.int .i64 f.2]∧f.1.size≤maxLen∧nz f.2
theorem bA:dM sq:=⟨fun h _=>h,fun h _=>h⟩
structure Hd where
 name:ByteArray
 fields:List Fd
def yv:CR Hd:=fun w B cs h=>∃ A cap,cs= [.string h.name,.slice A h.fields.length cap]∧h.name.size≤maxLen∧Sl 2 sq w B A h.fields
theorem fS:dM yv:=⟨fun ⟨A,cap,e,hn,h⟩ hk=>⟨A,cap,e,hn,h.keep bA hk⟩,fun ⟨A,cap,e,hn,h⟩ hB=>⟨A,cap,e,hn,h.more bA hB⟩⟩
structure Se where
 kind:Int
 v:Lt
 m:Lt
def Aq:CR Se:=fun _ _ cs s=>cs=.int .u8 s.kind::(AJ s.v++AJ s.m)∧u8 s.kind∧em s.v∧em s.m
theorem jW:dM Aq:=⟨fun h _=>h,fun h _=>h⟩
structure Ca where
 dflt:Bool
 sets:List Se
 dest:ByteArray
def Ar:CR Ca:=fun w B cs c=>∃ A cap,cs= [.bool c.dflt,.slice A c.sets.length cap,.string c.dest]∧c.dest.size≤maxLen∧Sl 7 Aq w B A c.sets
theorem eD:dM Ar:=⟨fun ⟨A,cap,e,hn,h⟩ hk=>⟨A,cap,e,hn,h.keep jW hk⟩,fun ⟨A,cap,e,hn,h⟩ hB=>⟨A,cap,e,hn,h.more jW hB⟩⟩
structure Sa where
 name:ByteArray
 takes:List ByteArray
 dest:ByteArray
 keys:List Ex
 cases_:List Ca
def wS:CR Sa:=fun w B cs s=>∃ A1 c1 A2 c2 A3 c3,cs= [.string s.name,.slice A1 s.takes.length c1,.string s.dest,.slice A2 s.keys.length c2,.slice A3 s.cases_.length c3]∧s.name.size≤maxLen∧s.dest.size≤maxLen∧
 Sl 1 iy w B A1 s.takes∧Sl 9 dL w B A2 s.keys∧Sl 3 Ar w B A3 s.cases_
theorem gE:dM wS:=⟨fun ⟨A1,c1,A2,c2,A3,c3,e,hn,hd,h1,h2,h3⟩ hk=>⟨A1,c1,A2,c2,A3,c3,e,hn,hd,h1.keep aW hk,h2.keep ai hk,h3.keep eD hk⟩,
 fun ⟨A1,c1,A2,c2,A3,c3,e,hn,hd,h1,h2,h3⟩ hB=>⟨A1,c1,A2,c2,A3,c3,e,hn,hd,h1.more aW hB,h2.more ai hB,h3.more eD hB⟩⟩
structure Ac where
 name:ByteArray
 params:List Fd
 body:List St
def yw:CR Ac:=fun w B cs a=>∃ A1 c1 A2 c2,cs= [.string a.name,.slice A1 a.params.length c1,.slice A2 a.body.length c2]∧a.name.size≤maxLen∧Sl 2 sq w B A1 a.params∧Sl 14 dR w B A2 a.body
theorem fT:dM yw:=⟨fun ⟨A1,c1,A2,c2,e,hn,h1,h2⟩ hk=>⟨A1,c1,A2,c2,e,hn,h1.keep bA hk,h2.keep be hk⟩,fun ⟨A1,c1,A2,c2,e,hn,h1,h2⟩ hB=>⟨A1,c1,A2,c2,e,hn,h1.more bA hB,h2.more be hB⟩⟩
structure Ky where
 e:Ex
 kind:Int
def As:CR Ky:=fun w B cs k=>∃ ecs,cs=ecs++ [.int .u8 k.kind]∧u8 k.kind∧dL w B ecs k.e
theorem jX:dM As:=⟨fun ⟨ecs,e,hk,h⟩ hk'=>⟨ecs,e,hk,ai.keep h hk'⟩,fun ⟨ecs,e,hk,h⟩ hB=>⟨ecs,e,hk,ai.more h hB⟩⟩
structure Ta where
 name:ByteArray
 keys:List Ky
 actions:List ByteArray
 dname:ByteArray
 dargs:List Lt
def wT:CR Ta:=fun w B cs t=>∃ A1 c1 A2 c2 A3 c3,cs= [.string t.name,.slice A1 t.keys.length c1,.slice A2 t.actions.length c2,.string t.dname,.slice A3 t.dargs.length c3]∧t.name.size≤maxLen∧t.dname.size≤maxLen∧
 Sl 10 As w B A1 t.keys∧Sl 1 iy w B A2 t.actions∧Sl 3 Ap w B A3 t.dargs
theorem gF:dM wT:=⟨fun ⟨A1,c1,A2,c2,A3,c3,e,hn,hd,h1,h2,h3⟩ hk=>⟨A1,c1,A2,c2,A3,c3,e,hn,hd,h1.keep jX hk,h2.keep aW hk,h3.keep mc hk⟩,
 fun ⟨A1,c1,A2,c2,A3,c3,e,hn,hd,h1,h2,h3⟩ hB=>⟨A1,c1,A2,c2,A3,c3,e,hn,hd,h1.more jX hB,h2.more aW hB,h3.more mc hB⟩⟩
structure Pg where
 headers:List Hd
 metas:List Fd
 states:List Sa
 actions:List Ac
 tables:List Ta
 control:List St
 emit:List ByteArray
abbrev aq (p:Pg) (A1 A2 A3 A4 A5 A6 A7:Option Addr) (c1 c2 c3 c4 c5 c6 c7:Nat):Array Value:=#[.slice A1 p.headers.length c1,.slice A2 p.metas.length c2,.slice A3 p.states.length c3,.slice A4 p.actions.length c4,.slice A5 p.tables.length c5,.slice A6 p.control.length c6,.slice A7 p.emit.length c7]
abbrev dw (p:Pg) (A1 A2 A3 A4 A5 A6 A7:Option Addr) (c1 c2 c3 c4 c5 c6 c7:Nat) (a:Int):Array Value:=#[.slice A1 p.headers.length c1,.slice A2 p.metas.length c2,.slice A3 p.states.length c3,.slice A4 p.actions.length c4,.slice A5 p.tables.length c5,.slice A6 p.control.length c6,.slice A7 p.emit.length c7,.int .i64 a]
abbrev aO (op:Int) (lit:Lt) (head name:ByteArray) (hi lo:Int) (A:Option Addr) (n cap:Nat):Array Value:=#[.int .u8 op,.int .i64 lit.1,.int .u64 lit.2.1,.int .u64 lit.2.2,.string head,.string name,.int .i64 hi,.int .i64 lo,.slice A n cap]
abbrev nA (kind:Int) (h n:ByteArray) (op:Int) (lit:Lt) (head name:ByteArray) (hi lo:Int) (A:Option Addr) (k cap:Nat) (A1:Option Addr) (k1 c1:Nat) (A2:Option Addr) (k2 c2:Nat):Array Value:=#[.int .u8 kind,.string h,.string n,.int .u8 op,.int .i64 lit.1,.int .u64 lit.2.1,.int .u64 lit.2.2,.string head,.string name,.int .i64 hi,.int .i64 lo,.slice A k cap,.slice A1 k1 c1,.slice A2 k2 c2]
structure bu (w:World) (B:Nat) (A1 A2 A3 A4 A5 A6 A7:Option Addr) (p:Pg):Prop where
 headers:Sl 2 yv w B A1 p.headers
 metas:Sl 2 sq w B A2 p.metas
 states:Sl 5 wS w B A3 p.states
 actions:Sl 3 yw w B A4 p.actions
 tables:Sl 5 wT w B A5 p.tables
 control:Sl 14 dR w B A6 p.control
 emit:Sl 1 iy w B A7 p.emit
def AW (p:Pg) (A1 A2 A3 A4 A5 A6 A7:Option Addr) (c1 c2 c3 c4 c5 c6 c7:Nat):List Value:=
 [.slice A1 p.headers.length c1,.slice A2 p.metas.length c2,.slice A3 p.states.length c3,.slice A4 p.actions.length c4,.slice A5 p.tables.length c5,.slice A6 p.control.length c6,.slice A7 p.emit.length c7]
theorem bu.keep {w w':World} {B:Nat} {A1 A2 A3 A4 A5 A6 A7:Option Addr} {p:Pg} (h:bu w B A1 A2 A3 A4 A5 A6 A7 p) (hk:∀ p:Addr,p.block<B→w'.cell? p=w.cell? p):bu w' B A1 A2 A3 A4 A5 A6 A7 p:=
 ⟨h.1.keep fS hk,h.2.keep bA hk,h.3.keep gE hk,h.4.keep fT hk,h.5.keep gF hk,h.6.keep be hk,h.7.keep aW hk⟩
theorem bu.below {w w':World} {B:Nat} {A1 A2 A3 A4 A5 A6 A7:Option Addr} {p:Pg} (h:bu w B A1 A2 A3 A4 A5 A6 A7 p) (hb:Below B w w'):bu w' B A1 A2 A3 A4 A5 A6 A7 p:=h.keep fun _ hp=>hb.cell hp
section
open Go.Lib
def dS (c:Int):Bool:=decide (48≤c∧c≤57)
def ie (c:Int):Bool:=decide (97≤c∧c≤122∨65≤c∧c≤90∨c=95)
def dx (c:Int):Bool:=dS c ||ie c
def dT:List (List UInt8)→List UInt8
 | []=> []
 |w::r=>w++32::dT r
theorem mf (x:List UInt8):∀ (w r:List UInt8),(32:UInt8)∉w→(0≤index (w++r) (32::x)↔0≤index r (32::x))
 | [],r,_=>by simp
 |b::w,r,h=>by
  simp only [BI,not_or] at h
  have ih:=mf x w r h.2
  have g:=index_ge (w++r) (32::x)
  have hp:BS (32::x) (b::(w++r))=false:=by
   simp only [BS,Bool.and_eq_false_iff,beq_eq_false_iff_ne]
   exact .inl h.1
  simp only [BC,index,hp,Bool.false_eq_true,if_false]
  by_cases e:index (w++r) (32::x)= -1
  ·simp [e] at ih ⊢;exact ih
  ·simp only [beq_iff_eq,e,if_false];rw [←ih];omega
theorem kO:∀ (s w:List UInt8) (r:List UInt8),(32:UInt8)∉s→(32:UInt8)∉w→(BS (s++ [32]) (w++32::r)=true↔s=w)
 | [],[],r,_,_=>by simp [BS]
 | [],b::w,r,_,hw=>by
  simp only [BI,not_or] at hw
  simp [BS,hw.1]
 |a::s,[],r,hs,_=>by
  simp only [BI,not_or] at hs
  simp [BS]
  intro e;exact absurd e.symm hs.1
 |a::s,b::w,r,hs,hw=>by
  simp only [BI,not_or] at hs hw
  have ih:=kO s w r hs.2 hw.2
  simp [BS] at ih ⊢
  intro _;exact ih
theorem fU (s:List UInt8) (hs:(32:UInt8)∉s) (hne:s≠ []):∀ ws:List (List UInt8),(∀ w∈ws,(32:UInt8)∉w)→
  (0≤index (32::dT ws) (32::(s++ [32]))↔s∈ws)
 | [],_=>by
  cases s with
  |nil=>exact absurd rfl hne
  |cons a s=>simp [dT,index,BS]
 |w::r,hw=>by
  have ih:=fU s hs hne r (fun x hx=>hw x (BT _ hx))
  have hww:=hw w BW
  have hp:=kO s w (dT r) hs hww
  have hk:=mf (s++ [32]) w (32::dT r) hww
  have g:=index_ge (w++32::dT r) (32::(s++ [32]))
  have hq:BS (32::(s++ [32])) (32::(w++32::dT r))=BS (s++ [32]) (w++32::dT r):=by simp [BS]
  simp only [dT]
  unfold index
  rw [hq]
  by_cases e:s=w
  ·rw [hp.2 e];simp [e]
  ·have:BS (s++ [32]) (w++32::dT r)=false:=by
    rw [BD];exact fun h=>e (hp.1 h)
   rw [this]
   simp only [Bool.false_eq_true,if_false,BI,e,false_or]
   rw [←ih,←hk]
   by_cases e2:index (w++32::dT r) (32::(s++ [32]))= -1
   ·simp [e2]
   ·simp only [beq_iff_eq,e2,if_false];omega
theorem nX (s:List UInt8):0≤index s [32]↔(32:UInt8)∈s:=by
 induction s with
 |nil=>simp [index]
 |cons b l ih=>
  have g:=index_ge l [32]
  by_cases e:b=32
  ·simp [index,BS,e]
  ·have e':¬(32:UInt8)=b:=fun h=>e h.symm
   simp only [index,BS,Bool.and_true,beq_iff_eq,e',if_false,BI,false_or,←ih]
   by_cases e2:index l [32]= -1
   ·simp [e2]
   ·simp only [e2,if_false];omega
def yx:List (List UInt8):= ["header", "metadata", "bit", "parser", "state", "extract", "transition", "select", "accept", "reject", "default", "action", "table", "key", "actions", "exact", "lpm", "ternary", "control", "apply", "if", "else", "drop", "forward", "valid", "invalid", "deparser", "emit", "meta", "port", "isValid", "_"].map fun s=>s.toUTF8.data.toList
def uB (s:ByteArray):Bool:=decide (s.data.toList∈yx)
def av (s:ByteArray):Bool:=decide (1≤s.size∧s.size≤16)&& !dS ((s.data.toList.headD 0).toNat)&& !uB s&&s.data.toList.all fun c=>dx c.toNat
theorem ig:∀ w∈yx,(32:UInt8)∉w:=by decide+kernel
theorem nY: []∉yx:=by decide+kernel
theorem zV (s:List UInt8) (t:List UInt8) (ht:t=32::dT yx):
  (s≠ []∧contains s [32]=false∧contains t (32::(s++ [32]))=true)↔s∈yx:=by
 subst ht
 unfold contains
 have h1:=nX s
 constructor
 ·rintro ⟨hne,hb,hc⟩
  simp only [decide_eq_false_iff_not,decide_eq_true_eq] at hb hc
  exact (fU s (fun h=>hb (h1.2 h)) hne yx ig).1 hc
 ·intro h
  have hb:=ig s h
  have hne:s≠ []:=fun e=>nY (e ▸ h)
  refine ⟨hne,?_,?_⟩
  ·simp only [decide_eq_false_iff_not];exact fun g=>hb (h1.1 g)
  ·simp only [decide_eq_true_eq];exact (fU s hb hne yx ig).2 h
theorem uC {s:ByteArray} (h:s.toList= []):uB s=false:=by
 rw [ByteArray.toList_eq] at h
 simp only [uB,h,decide_eq_false_iff_not];exact nY
theorem uD {s:ByteArray} (hb:contains s.data.toList (ByteArray.mk #[32]).data.toList=true):uB s=false:=by
 have h1:(32:UInt8)∈s.data.toList:=(nX _).1 (by simpa [contains] using hb)
 simp only [uB,decide_eq_false_iff_not];exact fun h=>ig _ h h1
theorem zW (s:ByteArray) (C:List UInt8) (hC:C=32::dT yx) (h0:¬s.toList= []) (hb:contains s.data.toList (ByteArray.mk #[32]).data.toList=false):
  contains C (ByteArray.mk #[32]++s++ByteArray.mk #[32]).data.toList=uB s:=by
 rw [ByteArray.toList_eq] at h0
 have e:(ByteArray.mk #[32]++s++ByteArray.mk #[32]).data.toList=32::(s.data.toList++ [32]):=by simp
 have:=zV s.data.toList C hC
 rw [Bool.eq_iff_iff,e,uB,decide_eq_true_eq,←this]
 exact ⟨fun h=>⟨h0,hb,h⟩,fun h=>h.2.2⟩
def dG (l:List UInt8):Nat:=(l.takeWhile fun c=>dx c.toNat).length
theorem mg:∀ (l:List UInt8) (k:Nat) (hk:k<l.length),k≤dG l→dx (l[k].toNat:Nat)=true→k+1≤dG l
 | [],k,hk,_,_=>absurd hk (by simp)
 |c::l,0,_,_,hw=>by simp at hw;simp [dG,hw]
 |c::l,k+1,hk,hl,hw=>by
  by_cases hc:dx (c.toNat:Nat)=true
  ·have ih:=mg l k (by simpa using hk) (by simpa [dG,hc] using hl) (by simpa using hw)
   simpa [dG,hc] using ih
  ·simp [dG,hc] at hl
theorem mi:∀ (l:List UInt8) (k:Nat) (hk:k<l.length),k≤dG l→dx (l[k].toNat:Nat)=false→dG l=k
 | [],k,hk,_,_=>absurd hk (by simp)
 |c::l,0,_,_,hw=>by simp at hw;simp [dG,hw]
 |c::l,k+1,hk,hl,hw=>by
  by_cases hc:dx (c.toNat:Nat)=true
  ·have ih:=mi l k (by simpa using hk) (by simpa [dG,hc] using hl) (by simpa using hw)
   simpa [dG,hc] using ih
  ·simp [dG,hc] at hl
theorem qm:∀ l:List UInt8,dG l≤l.length
 | []=>by simp [dG]
 |c::l=>by
  have:=qm l
  by_cases hc:dx (c.toNat:Nat)=true<;>simp [dG,hc] at this ⊢;exact this
theorem ij:∀ l:List UInt8,dG l=l.length↔l.all (fun c=>dx c.toNat)=true
 | []=>by simp [dG]
 |c::l=>by
  have:=ij l
  by_cases hc:dx (c.toNat:Nat)=true<;>simp [dG,hc] at this ⊢;exact this
def fV (s:ByteArray):Nat:=dG s.data.toList
theorem nZ {s:ByteArray} {k:Nat} (hk:k<s.size) (h:k≤fV s) (hw:dx (s[k].toNat:Nat)=true):k+1≤fV s:=
 mg _ k (by simpa using hk) h hw
theorem oa {s:ByteArray} {k:Nat} (hk:k<s.size) (h:k≤fV s) (hw:dx (s[k].toNat:Nat)=false):fV s=k:=
 mi _ k (by simpa using hk) h hw
theorem t9 (s:ByteArray):fV s≤s.size:=by have:=qm s.data.toList;simpa [fV] using this
theorem qn {s:ByteArray} {k:Nat} (hk:k≤s.size) (hn:¬k<s.size) (h:k≤fV s):fV s=k:=by have:=t9 s;omega
theorem uE (s:ByteArray):((s.extract 0 (fV s)).toList==s.toList)=s.data.toList.all fun c=>dx c.toNat:=by
 have ha:=ij s.data.toList
 have hl:=t9 s
 rw [Bool.eq_iff_iff,←ha,ByteArray.toList_eq,ByteArray.toList_eq,beq_iff_eq]
 constructor
 ·intro h
  have:=congrArg List.length h
  simp at this
  simp [fV] at this hl ⊢;omega
 ·intro h
  have e:fV s=s.size:=by simpa [fV] using h
  rw [e];simp
theorem iD {s:ByteArray} (h:0<s.size):s.toList.isEmpty=false:=by
 rw [ByteArray.toList_eq]
 have:s.data.toList.length=s.size:=by simp
 cases he:s.data.toList with
 |nil=>rw [he] at this;simp at this;omega
 |cons a l=>rfl
theorem jg {s:ByteArray} (h:¬0<s.size):s.toList.isEmpty=true:=by
 rw [ByteArray.toList_eq]
 have:s.data.toList.length=s.size:=by simp
 cases he:s.data.toList with
 |nil=>rfl
 |cons a l=>rw [he] at this;simp at this;omega
theorem mj {s:ByteArray} (h:0<s.size):s.data.toList.headD 0=s[0]:=by
 have e:s[0]=s.data.toList[0]'(by simpa using h):=by simp;rfl
 have g:∀ (l:List UInt8) (hl:0<l.length),l.headD 0=l[0]:=fun l hl=>by
  cases l with
  |nil=>simp at hl
  |cons a l=>simp
 rw [e];exact g _ _
theorem wU (s:ByteArray):av s=(((s.extract 0 (fV s)).toList==s.toList)&& !s.toList.isEmpty&&decide (s.size≤16)&& !dS ((s.data.toList.headD 0).toNat:Nat)&& !uB s):=by
 rw [uE]
 by_cases h0:0<s.size
 ·rw [iD h0]
  have:(decide (1≤s.size∧s.size≤16))=decide (s.size≤16):=by simp;omega
  rw [av,this]
  cases s.data.toList.all fun c=>dx (c.toNat:Nat)<;>simp
 ·rw [jg h0]
  have:(decide (1≤s.size∧s.size≤16))=false:=by simp;omega
  rw [av,this];simp
def eo:List ByteArray:= [⟨#[104,101,97,100,101,114]⟩,⟨#[109,101,116,97,100,97,116,97]⟩,⟨#[98,105,116]⟩,⟨#[112,97,114,115,101,114]⟩,⟨#[115,116,97,116,101]⟩,⟨#[101,120,116,114,97,99,116]⟩,⟨#[116,114,97,110,115,105,116,105,111,110]⟩,⟨#[115,101,108,101,99,116]⟩,⟨#[97,99,99,101,112,116]⟩,⟨#[114,101,106,101,99,116]⟩,⟨#[100,101,102,97,117,108,116]⟩,⟨#[97,99,116,105,111,110]⟩,⟨#[116,97,98,108,101]⟩,⟨#[107,101,121]⟩,⟨#[97,99,116,105,111,110,115]⟩,⟨#[101,120,97,99,116]⟩,⟨#[108,112,109]⟩,⟨#[116,101,114,110,97,114,121]⟩,⟨#[99,111,110,116,114,111,108]⟩,⟨#[97,112,112,108,121]⟩,⟨#[105,102]⟩,⟨#[101,108,115,101]⟩,⟨#[100,114,111,112]⟩,⟨#[102,111,114,119,97,114,100]⟩,⟨#[118,97,108,105,100]⟩,⟨#[105,110,118,97,108,105,100]⟩,⟨#[100,101,112,97,114,115,101,114]⟩,⟨#[101,109,105,116]⟩,⟨#[109,101,116,97]⟩,⟨#[112,111,114,116]⟩,⟨#[105,115,86,97,108,105,100]⟩,⟨#[95]⟩]
theorem uF:eo.map (fun s=>s.data.toList)=yx:=by decide+kernel
instance:LawfulBEq ByteArray where
 eq_of_beq {a b} h:=by rw [Go.beq_toListBytes,beq_iff_eq,ByteArray.toList_eq,ByteArray.toList_eq] at h;exact Go.WideShapes.bytes_inj h
 rfl {a}:=by rw [Go.beq_toListBytes,beq_iff_eq]
theorem yy (s:ByteArray):uB s=decide (s∈eo):=by
 rw [uB,Bool.eq_iff_iff,decide_eq_true_eq,decide_eq_true_eq,←uF,List.mem_map]
 exact ⟨fun ⟨a,ha,e⟩=>by rw [←Go.WideShapes.bytes_inj e];exact ha,fun h=>⟨s,h,rfl⟩⟩
theorem sz:∀ s∈eo,s.size≤16:=by decide+kernel
end
end Go.Proofs.YtbbdhknagofghaaGreat

import Derived.Test.YtijcdfdbkffiaaaGreatDoorRows
import Derived.WalkSpells
import Derived.WalkLawsBesides
import Derived.Deep.AppendLies
import Derived.Lib.QuietBelow
import Derived.Test.YtijcdfdbkffiaaaGreatDoorShlf
import Derived.Laws.EntriesVeiled
import Derived.StillTailTactics
set_option linter.all false
set_option maxHeartbeats 1000000
set_option maxRecDepth 100000
open Go.Proofs.Tryz
namespace Go.Proofs.YtijcdfdbkffiaaaGreatDoor
open _root_.Nat renaming lt_of_lt_of_le→Hr, le_refl→Ht, zero_le→Hz
open _root_.Go.RowKit.Below renaming refl→Hs
open _root_.List renaming getElem?_eq_getElem→HA, getElem_mem→HE, length_take→HO, mem_cons→HU, isPrefixOf→HY, mem_append→HZ, getElem_of_mem→H0, getElem?_eq_some_iff→H1, take_of_length_le→H6, take_succ_eq_append_getElem→H9, flatMap_cons→Ia, eq_nil_of_length_eq_zero→Ie, getElem?_append_right→Ik, getElem?_append_left→Ip
open _root_.Bool renaming eq_iff_iff→HF, false_eq_true→H2, and_eq_false_iff→Ib
open _root_.Go.Sort renaming grow→HG
open _root_.Array renaming getElem?_eq_some_iff→Ir
open Go.RowKit
section
theorem aa {p:Prop} (h:p):Hid p:=h
abbrev CR (α:Type):=World→Nat→List Value→α→Prop
structure f7 {α:Type} (R:CR α):Prop where
 keep:∀ {w w':World} {B:Nat} {cs:List Value} {x:α},R w B cs x→(∀ p:Addr,p.block<B→w'.cell? p=w.cell? p)→R w' B cs x
 more:∀ {w:World} {B B':Nat} {cs:List Value} {x:α},R w B cs x→B≤B'→R w B' cs x
def bc:CR Int:=fun _ _ cs x=>cs= [.int .i64 x]
def cJ:CR ByteArray:=fun _ _ cs s=>cs= [.string s]∧s.size≤maxLen
def Dr:CR ((Int×Int)×(Int×Int)):=fun _ _ cs x=>cs= [.int .i64 x.1.1,.int .i64 x.1.2,.int .i64 x.2.1,.int .i64 x.2.2]
theorem ah:f7 bc:=⟨fun h _=>h,fun h _=>h⟩
theorem aG:f7 cJ:=⟨fun h _=>h,fun h _=>h⟩
theorem pX:f7 Dr:=⟨fun h _=>h,fun h _=>h⟩
section
variable {α:Type} {R:CR α} {k:Nat} {w w':World} {B B':Nat} {A:Option Addr} {xs:List α}
def Sl (k:Nat) (R:CR α) (w:World) (B:Nat) (A:Option Addr) (xs:List α):Prop:=
 xs.length≤maxLen∧∀ i x,xs[i]? =some x→∃ b o ecs,A=some ⟨b,o,none⟩∧b<B∧ecs.length=k∧(∀ j u,ecs[j]? =some u→w.cell? ⟨b,o+i*k+j,none⟩=some u)∧R w B ecs x
def mS (k:Nat) (R:CR α):CR (List α):=fun w B cs xs=>∃ A cap,cs= [.slice A xs.length cap]∧Sl k R w B A xs
theorem Sl.keep (hs:f7 R) (h:Sl k R w B A xs) (hk:∀ p:Addr,p.block<B→w'.cell? p=w.cell? p):Sl k R w' B A xs:=
 ⟨h.1,fun i x hx=>by
  obtain ⟨b,o,ecs,hA,hb,hl,hc,hr⟩:=h.2 i x hx
  exact ⟨b,o,ecs,hA,hb,hl,fun j u hu=>(hk _ hb).trans (hc j u hu),hs.keep hr hk⟩⟩
theorem Sl.more (hs:f7 R) (h:Sl k R w B A xs) (hB:B≤B'):Sl k R w B' A xs:=
 ⟨h.1,fun i x hx=>by
  obtain ⟨b,o,ecs,hA,hb,hl,hc,hr⟩:=h.2 i x hx
  exact ⟨b,o,ecs,hA,by omega,hl,hc,hs.more hr hB⟩⟩
theorem ee (hs:f7 R):f7 (mS k R):=
 ⟨fun ⟨A,cap,hc,h⟩ hk=>⟨A,cap,hc,h.keep hs hk⟩,fun ⟨A,cap,hc,h⟩ hB=>⟨A,cap,hc,h.more hs hB⟩⟩
theorem Sl.below (hs:f7 R) (h:Sl k R w B A xs) (hb:Below B w w'):Sl k R w' B A xs:=h.keep hs fun _ hp=>hb.cell hp
theorem Sl.alloc (hs:f7 R) (h:Sl k R w B A xs) (hB:B≤w.heap.size) (o:Obj):Sl k R (w.alloc o) B A xs:=h.keep hs fun p hp=>World.cell?_alloc_lt w o p (by omega)
theorem Sl.nil_:Sl k R w B A ([]:List α):=⟨by simp,fun i x hx=>by simp at hx⟩
theorem Sl.len (h:Sl k R w B A xs):xs.length≤9223372036854775807:=h.1
theorem Sl.at1 (h:Sl 1 R w B A xs) {i:Nat} (hi:i<xs.length):∃ b o u,A=some ⟨b,o,none⟩∧b<B∧w.cell? ⟨b,o+i,none⟩=some u∧R w B [u] xs[i]:=by
 obtain ⟨b,o,ecs,hA,hb,hl,hc,hr⟩:=h.2 i xs[i] (HA hi)
 match ecs,hl with
 | [u],_=>
  have:=hc 0 u rfl
  exact ⟨b,o,u,hA,hb,by simpa using this,hr⟩
theorem Sl.int {xs:List Int} (h:Sl 1 bc w B A xs) {i:Nat} (hi:i<xs.length):∃ b o,A=some ⟨b,o,none⟩∧b<B∧w.cell? ⟨b,o+i,none⟩=some (.int .i64 xs[i]):=by
 obtain ⟨b,o,u,hA,hb,hc,hr⟩:=h.at1 hi
 cases hr
 exact ⟨b,o,hA,hb,hc⟩
theorem Sl.str {xs:List ByteArray} (h:Sl 1 cJ w B A xs) {i:Nat} (hi:i<xs.length):∃ b o,A=some ⟨b,o,none⟩∧b<B∧w.cell? ⟨b,o+i,none⟩=some (.string xs[i])∧xs[i].size≤maxLen:=by
 obtain ⟨b,o,u,hA,hb,hc,hr,hz⟩:=h.at1 hi
 cases hr
 exact ⟨b,o,hA,hb,hc,hz⟩
theorem Sl.ints {xs:List (List Int)} (h:Sl 1 (mS 1 bc) w B A xs) {i:Nat} (hi:i<xs.length):∃ b o A' cap',A=some ⟨b,o,none⟩∧b<B∧w.cell? ⟨b,o+i,none⟩=some (.slice A' xs[i].length cap')∧Sl 1 bc w B A' xs[i]:=by
 obtain ⟨b,o,u,hA,hb,hc,A',cap',hr,hs⟩:=h.at1 hi
 cases hr
 exact ⟨b,o,A',cap',hA,hb,hc,hs⟩
end
theorem bY {α:Type} {p:α→Bool} {xs:List α} {k:Nat} (hlt:k<xs.length) (hc:(xs.take k).any p=false) (he:p xs[k]=false):(xs.take (k+1)).any p=false:=by
 rw [H9 hlt,List.any_append,hc];simp [he]
theorem gg {α:Type} {p:α→Bool} {xs:List α} {k:Nat} (hlt:k<xs.length) (he:p xs[k]=true):xs.any p=true:=
 List.any_eq_true.2 ⟨xs[k],HE _,he⟩
theorem de {α:Type} {p:α→Bool} {xs:List α} {k:Nat} (hk:k≤xs.length) (hn:¬k<xs.length) (hc:(xs.take k).any p=false):xs.any p=false:=by
 rwa [H6 (by omega)] at hc
theorem pY {a b:Bool} (h:a=true↔b=true):Ending.returned (.bool a)=.returned (.bool b):=by rw [HF.2 h]
theorem ad {a b:Bool} (h:a=b):Ending.returned (.bool a)=.returned (.bool b):=by rw [h]
theorem av {k:IntKind} {a b:Int} (h:a=b):Ending.returned (.int k a)=.returned (.int k b):=by rw [h]
theorem au {B:Nat} {a w:World} (h:Below B a w) (n:Nat):Below B a (w.drewN n):=⟨h.os,h.tape,h.output,h.size,h.block⟩
theorem cZ {P:Program} {f:FuncId} {args:Array Value} {w:World} {n:Nat} {v:Value}
  (h:Calls P f args (w.drewN n) fun e w'=>e=.returned v∧w.drewN n=w'):Calls P f args (w.drewN n) fun e w''=>e=.returned v∧∃ m,w''=w.drewN m:=
 h.mono fun _ _ ⟨he,hm⟩=>⟨he,n,hm.symm⟩
theorem gh {P:Program} {f:FuncId} {args:Array Value} {w:World} {a n:Nat} {v:Value}
  (h:Calls P f args (w.drewN (a+n)) fun e w'=>e=.returned v∧w.drewN (a+n)=w'):
  Calls P f args (w.drewN (a+n)) fun e w''=>e=.returned v∧∃ m,w''=w.drewN (a+m):=
 h.mono fun _ _ ⟨he,hm⟩=>⟨he,n,hm.symm⟩
theorem Sl.drewN {α:Type} {R:CR α} {k:Nat} {w:World} {B:Nat} {A:Option Addr} {xs:List α} (hs:f7 R) (h:Sl k R w B A xs) (n:Nat):Sl k R (w.drewN n) B A xs:=h.keep hs fun _ _=>rfl
theorem uv (a b:ByteArray):(a.toList==b.toList)=decide (a=b):=by
 rw [ByteArray.toList_eq,ByteArray.toList_eq,HF]
 simp only [beq_iff_eq,decide_eq_true_eq]
 exact ⟨fun h=>Go.WideShapes.bytes_inj h,fun h=>by rw [h]⟩
theorem sG {a b:ByteArray} (h:a=b):(a.toList==b.toList)=true:=by rw [uv];simpa using h
theorem sH {a b:ByteArray} (h:¬a=b):(a.toList==b.toList)=false:=by rw [uv];simpa using h
theorem dK {α:Type} {xs:List α} {n:α} {k:Nat} (hlt:k<xs.length) (hc:n∉xs.take k) (he:¬xs[k]=n):n∉xs.take (k+1):=by
 rw [H9 hlt]
 intro h
 rcases HZ.1 h with h|h
 ·exact hc h
 ·rw [List.mem_singleton] at h
  exact he h.symm
theorem eB {α:Type} {xs:List α} {n:α} {k:Nat} (hk:k≤xs.length) (hn:¬k<xs.length) (hc:n∉xs.take k):n∉xs:=by
 rwa [H6 (by omega)] at hc
def Cf {α:Type} [DecidableEq α]:List α→α→Nat
 | [],_=>0
 |x::l,a=>if x=a then 0 else Cf l a+1
def bo {α:Type} [DecidableEq α] (l:List α) (a:α):Int:=if a∈l then (Cf l a:Nat) else-1
theorem yD {α:Type} [DecidableEq α] (a:α):∀ (l:List α) (k:Nat) (hk:k<l.length),a∉l.take k→l[k]=a→Cf l a=k
 | [],k,hk,_,_=>absurd hk (by simp)
 |x::l,0,_,_,he=>by simp at he;simp [Cf,he]
 |x::l,k+1,hk,hn,he=>by
  simp only [List.take_succ_cons,HU,not_or] at hn
  have h1:¬x=a:=fun e=>hn.1 e.symm
  simp only [Cf,if_neg h1]
  rw [yD a l k (by simpa using hk) hn.2 (by simpa using he)]
theorem kN {α:Type} [DecidableEq α] {a:α} {l:List α} {k:Nat} (hk:k<l.length) (hn:a∉l.take k) (he:l[k]=a):bo l a=(k:Int):=by
 unfold bo
 rw [if_pos (by rw [←he];exact HE _),yD a l k hk hn he]
theorem pZ {α:Type} [DecidableEq α] {a:α} {l:List α} (h:a∉l):bo l a= -1:=by unfold bo;rw [if_neg h]
theorem yE {α:Type} [DecidableEq α] (l:List α) (k:Nat) (hk:k<l.length):Cf l l[k]≤k:=by
 induction l generalizing k with
 |nil=>simp at hk
 |cons x l ih=>
  simp only [Cf]
  cases k with
  |zero=>simp
  |succ k=>
   simp only [List.getElem_cons_succ]
   split
   ·omega
   ·have:=ih k (by simpa using hk);omega
theorem sI {α:Type} [DecidableEq α] {l:List α} {k:Nat} (hk:k<l.length):bo l l[k]=(k:Int)↔l[k]∉l.take k:=by
 constructor
 ·intro h hm
  obtain ⟨i,hi,he⟩:=H0 hm
  rw [HO] at hi
  rw [List.getElem_take] at he
  have h2:=yE l i (by omega)
  rw [he] at h2
  unfold bo at h
  rw [if_pos (HE _)] at h
  omega
 ·intro h;exact kN hk h rfl
theorem yF {α:Type} [DecidableEq α] {l:List α} {k:Nat} (hk:k<l.length):bo l l[k]≤(k:Int)∧0≤bo l l[k]:=by
 unfold bo
 rw [if_pos (HE _)]
 have:=yE l k hk
 omega
theorem yG {α:Type} [DecidableEq α] (a:α):∀ (l:List α),a∈l→Cf l a<l.length
 | [],h=>by simp at h
 |x::l,h=>by
  simp only [Cf]
  by_cases e:x=a
  ·rw [if_pos e];simp
  ·rw [if_neg e]
   rcases HU.1 h with h|h
   ·exact absurd h.symm e
   ·have:=yG a l h;simp;omega
theorem fd {W w1:World} (hb:Below W.heap.size W w1):(∀ b o,b<W.heap.size→w1.cell? ⟨b,o,none⟩=W.cell? ⟨b,o,none⟩)∧(∀ b o,b<W.heap.size→w1.frozen? ⟨b,o,none⟩=W.frozen? ⟨b,o,none⟩)∧W.heap.size≤w1.heap.size:=
 ⟨fun b o h=>hb.cell (p:=⟨b,o,none⟩) h,fun b o h=>hb.frozen (p:=⟨b,o,none⟩) h,hb.size⟩
theorem ac {W w1:World} (h:∃ p:Regrown,w1=HG (redrawn W p.d) p.os):Below W.heap.size W w1:=by
 obtain ⟨p,rfl⟩:=h;exact below_regrown _ _ _
theorem uw (W:World):∀ d os b o,b<W.heap.size→(HG (redrawn W d) os).cell? ⟨b,o,none⟩=W.cell? ⟨b,o,none⟩:=
 fun d os _ _ h=>(below_regrown W d os).cell h
theorem EQ (W:World) (d:Nat) (os:Array Obj):W.heap.size≤(HG (redrawn W d) os).heap.size:=(below_regrown W d os).size
theorem af (w:World) (cs:Array Value) (t:TypeId):∃ wb,w.alloc (.cells cs t)=wb∧wb.heap.size=w.heap.size+1∧Below w.heap.size w wb∧(∀ i,wb.cell? ⟨w.heap.size,i,none⟩=cs[i]?)∧(∀ i,wb.frozen? ⟨w.heap.size,i,none⟩=false):=
 ⟨_,rfl,by simp,(Hs _ _).alloc (Ht _) _,fun _=>World.cell?_alloc_at _ _ _ _ rfl,fun _=>World.frozen?_alloc_at _ _ _ _ rfl⟩
theorem bj {B:Nat} {w w':World} (h:Below B w w') (a i:Nat) (hl:a<B):w'.cell? ⟨a,i,none⟩=w.cell? ⟨a,i,none⟩:=h.cell hl
theorem FE {B:Nat} {w w':World} (h:Below B w w') (a i:Nat) (hl:a<B):w'.frozen? ⟨a,i,none⟩=w.frozen? ⟨a,i,none⟩:=h.frozen hl
theorem cR {P:Program} {id:Nat} {Q:Exit→Act→World→Prop} {a:Act} {w:World} {l:List Oper} (K:wpQuiet P l.toArray (fun w'=>∃ p:Regrown,w'=HG (redrawn w p.d) p.os) (fun a'=>∀ (w':World),(∃ p:Regrown,w'=HG (redrawn w p.d) p.os)→Q .normal a' w') l a) (h1:P.follows .mixedOrders=true:=by kernel_rfl) (h2:Region.lexB .any l.toArray=true:=by kernel_rfl):(Code.region id l.toArray true).wp P Q a w:=wp_region_quiet_below h1 h2 K
theorem aS {B:Nat} {wb wr:World} (h:Below B wb wr) (hz:B≤wr.heap.size):∀ d os b o,b<B→(HG (redrawn wr d) os).cell? ⟨b,o,none⟩=wb.cell? ⟨b,o,none⟩:=
 fun d os b o hb=>((below_regrown wr d os).cell (p:=⟨b,o,none⟩) (Hr hb hz)).trans (h.cell hb)
theorem ae {B:Nat} {wb wr:World} (h:Below B wb wr):(∀ b o,b<B→wr.cell? ⟨b,o,none⟩=wb.cell? ⟨b,o,none⟩)∧(∀ b o,b<B→wr.frozen? ⟨b,o,none⟩=wb.frozen? ⟨b,o,none⟩):=
 ⟨fun b o hb=>h.cell (p:=⟨b,o,none⟩) hb,fun b o hb=>h.frozen (p:=⟨b,o,none⟩) hb⟩
theorem aU {B:Nat} {wb wr:World} (h:Below B wb wr) (hz:B≤wr.heap.size) (d:Nat) (os:Array Obj):Below B wb (HG (redrawn wr d) os):=h.trans ((below_regrown wr d os).mono hz)
theorem jK {α:Type} {f:α→List Value} {k:Nat} (hf:∀ x,(f x).length=k):∀ (xs:List α) (i j:Nat) (x:α) (u:Value),xs[i]? =some x→(f x)[j]? =some u→(xs.flatMap f)[i*k+j]? =some u
 | [],i,j,x,u,h,_=>by simp at h
 |y::xs,0,j,x,u,h,hu=>by
  simp at h;subst h
  have:j<(f y).length:=(H1.1 hu).1
  simp [Ia,Ip this,hu]
 |y::xs,i+1,j,x,u,h,hu=>by
  have ih:=jK hf xs i j x u (by simpa using h) hu
  have hy:=hf y
  rw [Ia,Ik (by rw [hy,Nat.add_mul];omega),←ih]
  congr 1
  rw [hy,Nat.add_mul];omega
theorem fK {α:Type} {R:CR α} {k base:Nat} {e:TypeId} {w:World} {v:Value} {xs:List α} {f:α→List Value} (hf:∀ x,(f x).length=k) (hR:∀ x∈xs,R w w.heap.size (f x) x)
  (h:w.ownsRow base e k v xs.length (xs.flatMap f)):∃ A cap,v=.slice A xs.length cap∧Sl k R w w.heap.size A xs:=by
 rcases h.2 with ⟨rfl,hz⟩|⟨g,cap,cur,rfl,hb,hg,hl,hm,-⟩
 ·have hz':xs= []:=Ie hz
  subst hz'
  exact ⟨none,0,rfl,Sl.nil_⟩
 ·refine ⟨some ⟨g,0,none⟩,cap,rfl,by omega,fun i x hx=>⟨g,0,f x,rfl,(h.lt g rfl).2,hf x,fun j u hu=> ?_,hR x (List.mem_of_getElem? hx)⟩⟩
  have:=h.cells (g:=g) rfl (i*k+j) u (jK hf xs i j x u hx hu)
  have e:(⟨g,0,none⟩:Addr).add (i*k+j)=⟨g,0+i*k+j,none⟩:=by unfold Addr.add;split<;>simp_all<;>omega
  rw [←e];exact this
theorem vv {w:World} {a:Nat} {v0 v1 v2:Value} (h:∀ i,w.cell? ⟨a,i,none⟩=(#[v0,v1,v2]:Array Value)[i]?):
  w.cell? ⟨a,0,none⟩=some v0∧w.cell? ⟨a,1,none⟩=some v1∧w.cell? ⟨a,2,none⟩=some v2:=
 ⟨h 0,h 1,h 2⟩
theorem ig {w:World} {a:Nat} {v0 v1 v2 v3:Value} (h:∀ i,w.cell? ⟨a,i,none⟩=(#[v0,v1,v2,v3]:Array Value)[i]?):
  w.cell? ⟨a,0,none⟩=some v0∧w.cell? ⟨a,1,none⟩=some v1∧w.cell? ⟨a,2,none⟩=some v2∧w.cell? ⟨a,3,none⟩=some v3:=
 ⟨h 0,h 1,h 2,h 3⟩
theorem p8 {w:World} {a:Nat} {v0 v1 v2 v3 v4:Value} (h:∀ i,w.cell? ⟨a,i,none⟩=(#[v0,v1,v2,v3,v4]:Array Value)[i]?):
  w.cell? ⟨a,0,none⟩=some v0∧w.cell? ⟨a,1,none⟩=some v1∧w.cell? ⟨a,2,none⟩=some v2∧w.cell? ⟨a,3,none⟩=some v3∧w.cell? ⟨a,4,none⟩=some v4:=
 ⟨h 0,h 1,h 2,h 3,h 4⟩
theorem bW {w:World} {a:Nat} {v0 v1 v2 v3 v4 v5 v6 v7 v8:Value} (h:∀ i,w.cell? ⟨a,i,none⟩=(#[v0,v1,v2,v3,v4,v5,v6,v7,v8]:Array Value)[i]?):
  w.cell? ⟨a,0,none⟩=some v0∧w.cell? ⟨a,1,none⟩=some v1∧w.cell? ⟨a,2,none⟩=some v2∧w.cell? ⟨a,3,none⟩=some v3∧w.cell? ⟨a,4,none⟩=some v4∧w.cell? ⟨a,5,none⟩=some v5∧w.cell? ⟨a,6,none⟩=some v6∧w.cell? ⟨a,7,none⟩=some v7∧w.cell? ⟨a,8,none⟩=some v8:=
 ⟨h 0,h 1,h 2,h 3,h 4,h 5,h 6,h 7,h 8⟩
end
abbrev Lt:=Int×Int×Int
inductive Ex where
 |mk (op:Int) (lit:Lt) (head name:ByteArray) (hi lo:Int) (args:List Ex)
inductive St where
 |mk (kind:Int) (head name:ByteArray) (e:Ex) (thn els:List St)
def aW (n:Int):Prop:=0≤n∧n<18446744073709551616
def u8 (n:Int):Prop:=0≤n∧n<256
def B5 (n:Int):Prop:= -9223372036854775808≤n∧n<9223372036854775808
def kO (l:Lt):Prop:=B5 l.1∧aW l.2.1∧aW l.2.2
def FO (l:Lt):List Value:= [.int .i64 l.1,.int .u64 l.2.1,.int .u64 l.2.2]
def GN:CR Lt:=fun _ _ cs l=>cs=FO l∧kO l
theorem yH:f7 GN:=⟨fun h _=>h,fun h _=>h⟩
def FQ (op:Int) (lit:Lt) (head name:ByteArray) (hi lo:Int) (A:Option Addr) (n cap:Nat):List Value:=
 [.int .u8 op,.int .i64 lit.1,.int .u64 lit.2.1,.int .u64 lit.2.2,.string head,.string name,.int .i64 hi,.int .i64 lo,.slice A n cap]
inductive RE (w:World) (B:Nat):List Value→Ex→Prop
 |mk (op:Int) (lit:Lt) (head name:ByteArray) (hi lo:Int) (args:List Ex) (A:Option Addr) (cap b o:Nat) (C:Nat→List Value)
   (h0:u8 op∧kO lit∧head.size≤maxLen∧name.size≤maxLen∧B5 hi∧B5 lo) (hl:args.length≤maxLen)
   (hA:∀ i,i<args.length→A=some ⟨b,o,none⟩∧b<B∧(C i).length=9∧∀ j u,(C i)[j]? =some u→w.cell? ⟨b,o+i*9+j,none⟩=some u)
   (h:∀ i x,args[i]? =some x→RE w B (C i) x):RE w B (FQ op lit head name hi lo A args.length cap) (.mk op lit head name hi lo args)
def sm:Nat:=1048576
mutual
def jp:Ex→Nat
 | .mk _ _ _ _ _ _ args=>kP args+1
def kP:List Ex→Nat
 | []=>0
 |x::l=>max (jp x) (kP l)
end
theorem nF {x:Ex}:∀ {l:List Ex},x∈l→jp x≤kP l
 | [],h=>by simp at h
 |y::l,h=>by
  simp only [kP]
  rcases HU.1 h with rfl|h
  ·omega
  ·have:=nF h;omega
def Cg:CR Ex:=fun w B cs e=>RE w B cs e∧jp e≤sm
theorem RE.keep {w w':World} {B:Nat} {cs:List Value} {x:Ex} (hk:∀ p:Addr,p.block<B→w'.cell? p=w.cell? p) (h:RE w B cs x):RE w' B cs x:=by
 induction h with
 |mk op lit head name hi lo args A cap b o C h0 hl hA _ ih=>
  exact .mk op lit head name hi lo args A cap b o C h0 hl (fun i hi=>⟨(hA i hi).1,(hA i hi).2.1,(hA i hi).2.2.1,fun j u hu=>(hk _ (hA i hi).2.1).trans ((hA i hi).2.2.2 j u hu)⟩) ih
theorem RE.more {w:World} {B B':Nat} {cs:List Value} {x:Ex} (hB:B≤B') (h:RE w B cs x):RE w B' cs x:=by
 induction h with
 |mk op lit head name hi lo args A cap b o C h0 hl hA _ ih=>
  exact .mk op lit head name hi lo args A cap b o C h0 hl (fun i hi=>⟨(hA i hi).1,Hr (hA i hi).2.1 hB,(hA i hi).2.2⟩) ih
theorem oP:f7 Cg:=⟨fun h hk=>⟨RE.keep hk h.1,h.2⟩,fun h hB=>⟨RE.more hB h.1,h.2⟩⟩
theorem RE.inv {w:World} {B:Nat} {cs:List Value} {op:Int} {lit:Lt} {head name:ByteArray} {hi lo:Int} {args:List Ex} (h:Cg w B cs (.mk op lit head name hi lo args)):
  ∃ A cap,cs=FQ op lit head name hi lo A args.length cap∧u8 op∧kO lit∧head.size≤maxLen∧name.size≤maxLen∧B5 hi∧B5 lo∧Sl 9 Cg w B A args:=by
 obtain ⟨h,hd⟩:=h
 cases h with
 |mk _ _ _ _ _ _ _ A cap b o C h0 hl hA h=>
  refine ⟨A,cap,rfl,h0.1,h0.2.1,h0.2.2.1,h0.2.2.2.1,h0.2.2.2.2.1,h0.2.2.2.2.2,hl,fun i x hx=> ?_⟩
  have:=hA i (H1.1 hx).1
  have hdx:=nF (List.mem_of_getElem? hx)
  simp only [jp] at hd
  exact ⟨b,o,C i,this.1,this.2.1,this.2.2.1,this.2.2.2,h i x hx,by omega⟩
theorem sJ {α:Type} {p:Nat→α→Prop} (d:α) (n:Nat) (h:∀ i,i<n→∃ a,p i a):∃ C:Nat→α,∀ i,i<n→p i (C i):=
 ⟨fun i=>if hi:i<n then (h i hi).choose else d,fun i hi=>by show p i (if hi:i<n then (h i hi).choose else d);rw [dif_pos hi];exact (h i hi).choose_spec⟩
theorem Sl.rows {α:Type} {R:CR α} {k:Nat} {w:World} {B:Nat} {A:Option Addr} {xs:List α} (h:Sl k R w B A xs):
  ∃ (b o:Nat) (C:Nat→List Value),(∀ i,i<xs.length→A=some ⟨b,o,none⟩∧b<B∧(C i).length=k∧∀ j u,(C i)[j]? =some u→w.cell? ⟨b,o+i*k+j,none⟩=some u)∧∀ i x,xs[i]? =some x→R w B (C i) x:=by
 by_cases hz:0<xs.length
 ·obtain ⟨b,o,_,hA,hb,_⟩:=h.2 0 _ (HA hz)
  obtain ⟨C,hC⟩:=sJ (p:=fun i cs=>cs.length=k∧(∀ j u,cs[j]? =some u→w.cell? ⟨b,o+i*k+j,none⟩=some u)∧∀ x,xs[i]? =some x→R w B cs x) [] xs.length (fun i hi=>by
   obtain ⟨b',o',ecs,hA',hb',hl,hc,hr⟩:=h.2 i _ (HA hi)
   rw [hA] at hA'
   injection hA' with hA'
   injection hA' with e1 e2
   subst e1 e2
   exact ⟨ecs,hl,hc,fun x hx=>by rw [HA hi] at hx;injection hx with hx;subst hx;exact hr⟩)
  exact ⟨b,o,C,fun i hi=>⟨hA,hb,(hC i hi).1,(hC i hi).2.1⟩,fun i x hx=>(hC i (H1.1 hx).1).2.2 x hx⟩
 ·exact ⟨0,0,fun _=> [],fun i hi=>absurd hi (by omega),fun i x hx=>absurd (H1.1 hx).1 (by omega)⟩
theorem RE.intro {w:World} {B:Nat} {op:Int} {lit:Lt} {head name:ByteArray} {hi lo:Int} {args:List Ex} {A:Option Addr} {cap:Nat}
  (h0:u8 op∧kO lit∧head.size≤maxLen∧name.size≤maxLen∧B5 hi∧B5 lo) (hd:kP args<sm) (h:Sl 9 Cg w B A args):Cg w B (FQ op lit head name hi lo A args.length cap) (.mk op lit head name hi lo args):=by
 obtain ⟨b,o,C,hA,hC⟩:=h.rows
 exact ⟨.mk op lit head name hi lo args A cap b o C h0 h.1 hA fun i x hx=>(hC i x hx).1,by simp only [jp];omega⟩
def FR (kind:Int) (head name:ByteArray) (ecs:List Value) (A:Option Addr) (n cap:Nat) (A':Option Addr) (n' cap':Nat):List Value:=
 .int .u8 kind:: .string head:: .string name::(ecs++ [.slice A n cap,.slice A' n' cap'])
inductive RS (w:World) (B:Nat):List Value→St→Prop
 |mk (kind:Int) (head name:ByteArray) (e:Ex) (thn els:List St) (ecs:List Value) (A A':Option Addr) (cap cap' b o b' o':Nat) (C C':Nat→List Value)
   (h0:u8 kind∧head.size≤sm∧name.size≤sm) (hz:thn.length≤sm∧els.length≤sm) (he:RE w B ecs e∧jp e≤sm) (hl:thn.length≤maxLen) (hl':els.length≤maxLen)
   (hA:∀ i,i<thn.length→A=some ⟨b,o,none⟩∧b<B∧(C i).length=14∧∀ j u,(C i)[j]? =some u→w.cell? ⟨b,o+i*14+j,none⟩=some u)
   (hA':∀ i,i<els.length→A'=some ⟨b',o',none⟩∧b'<B∧(C' i).length=14∧∀ j u,(C' i)[j]? =some u→w.cell? ⟨b',o'+i*14+j,none⟩=some u)
   (h:∀ i x,thn[i]? =some x→RS w B (C i) x) (h':∀ i x,els[i]? =some x→RS w B (C' i) x):
   RS w B (FR kind head name ecs A thn.length cap A' els.length cap') (.mk kind head name e thn els)
def Ch:CR St:=fun w B cs s=>RS w B cs s
theorem RS.keep {w w':World} {B:Nat} {cs:List Value} {x:St} (hk:∀ p:Addr,p.block<B→w'.cell? p=w.cell? p) (h:RS w B cs x):RS w' B cs x:=by
 induction h with
 |mk kind head name e thn els ecs A A' cap cap' b o b' o' C C' h0 hz he hl hl' hA hA' _ _ ih ih'=>
  exact .mk kind head name e thn els ecs A A' cap cap' b o b' o' C C' h0 hz ⟨he.1.keep hk,he.2⟩ hl hl' (fun i hi=>⟨(hA i hi).1,(hA i hi).2.1,(hA i hi).2.2.1,fun j u hu=>(hk _ (hA i hi).2.1).trans ((hA i hi).2.2.2 j u hu)⟩)
   (fun i hi=>⟨(hA' i hi).1,(hA' i hi).2.1,(hA' i hi).2.2.1,fun j u hu=>(hk _ (hA' i hi).2.1).trans ((hA' i hi).2.2.2 j u hu)⟩) ih ih'
theorem RS.more {w:World} {B B':Nat} {cs:List Value} {x:St} (hB:B≤B') (h:RS w B cs x):RS w B' cs x:=by
 induction h with
 |mk kind head name e thn els ecs A A' cap cap' b o b' o' C C' h0 hz he hl hl' hA hA' _ _ ih ih'=>
  exact .mk kind head name e thn els ecs A A' cap cap' b o b' o' C C' h0 hz ⟨he.1.more hB,he.2⟩ hl hl' (fun i hi=>⟨(hA i hi).1,Hr (hA i hi).2.1 hB,(hA i hi).2.2⟩)
   (fun i hi=>⟨(hA' i hi).1,Hr (hA' i hi).2.1 hB,(hA' i hi).2.2⟩) ih ih'
theorem oQ:f7 Ch:=⟨fun h hk=>RS.keep hk h,fun h hB=>RS.more hB h⟩
theorem RS.inv {w:World} {B:Nat} {cs:List Value} {kind:Int} {head name:ByteArray} {e:Ex} {thn els:List St} (h:Ch w B cs (.mk kind head name e thn els)):
  ∃ ecs A cap A' cap',cs=FR kind head name ecs A thn.length cap A' els.length cap'∧u8 kind∧head.size≤sm∧name.size≤sm∧Cg w B ecs e∧Sl 14 Ch w B A thn∧Sl 14 Ch w B A' els:=by
 cases h with
 |mk _ _ _ _ _ _ ecs A A' cap cap' b o b' o' C C' h0 hz he hl hl' hA hA' h h'=>
  refine ⟨ecs,A,cap,A',cap',rfl,h0.1,h0.2.1,h0.2.2,he,⟨hl,fun i x hx=> ?_⟩,⟨hl',fun i x hx=> ?_⟩⟩
  ·have:=hA i (H1.1 hx).1
   exact ⟨b,o,C i,this.1,this.2.1,this.2.2.1,this.2.2.2,h i x hx⟩
  ·have:=hA' i (H1.1 hx).1
   exact ⟨b',o',C' i,this.1,this.2.1,this.2.2.1,this.2.2.2,h' i x hx⟩
theorem RS.intro {w:World} {B:Nat} {kind:Int} {head name:ByteArray} {e:Ex} {thn els:List St} {ecs:List Value} {A A':Option Addr} {cap cap':Nat}
  (h0:u8 kind∧head.size≤sm∧name.size≤sm) (hz:thn.length≤sm∧els.length≤sm) (he:Cg w B ecs e) (h:Sl 14 Ch w B A thn) (h':Sl 14 Ch w B A' els):
  Ch w B (FR kind head name ecs A thn.length cap A' els.length cap') (.mk kind head name e thn els):=by
 obtain ⟨b,o,C,hA,hC⟩:=h.rows
 obtain ⟨b',o',C',hA',hC'⟩:=h'.rows
 exact .mk kind head name e thn els ecs A A' cap cap' b o b' o' C C' h0 hz he h.1 h'.1 hA hA' hC hC'
abbrev Fd:=ByteArray×Int
def FG:CR Fd:=fun _ _ cs f=>cs= [.string f.1,.int .i64 f.2]∧f.1.size≤maxLen∧B5 f.2
theorem jq:f7 FG:=⟨fun h _=>h,fun h _=>h⟩
structure Hd where
 name:ByteArray
 fields:List Fd
def GO:CR Hd:=fun w B cs h=>∃ A cap,cs= [.string h.name,.slice A h.fields.length cap]∧h.name.size≤maxLen∧Sl 2 FG w B A h.fields
theorem yI:f7 GO:=⟨fun ⟨A,cap,e,hn,h⟩ hk=>⟨A,cap,e,hn,h.keep jq hk⟩,fun ⟨A,cap,e,hn,h⟩ hB=>⟨A,cap,e,hn,h.more jq hB⟩⟩
structure Se where
 kind:Int
 v:Lt
 m:Lt
def GP:CR Se:=fun _ _ cs s=>cs=.int .u8 s.kind::(FO s.v++FO s.m)∧u8 s.kind∧kO s.v∧kO s.m
theorem yJ:f7 GP:=⟨fun h _=>h,fun h _=>h⟩
structure Ca where
 dflt:Bool
 sets:List Se
 dest:ByteArray
def GQ:CR Ca:=fun w B cs c=>∃ A cap,cs= [.bool c.dflt,.slice A c.sets.length cap,.string c.dest]∧c.dest.size≤maxLen∧Sl 7 GP w B A c.sets
theorem yK:f7 GQ:=⟨fun ⟨A,cap,e,hn,h⟩ hk=>⟨A,cap,e,hn,h.keep yJ hk⟩,fun ⟨A,cap,e,hn,h⟩ hB=>⟨A,cap,e,hn,h.more yJ hB⟩⟩
structure Sa where
 name:ByteArray
 takes:List ByteArray
 dest:ByteArray
 keys:List Ex
 cases_:List Ca
def GR:CR Sa:=fun w B cs s=>∃ A1 c1 A2 c2 A3 c3,cs= [.string s.name,.slice A1 s.takes.length c1,.string s.dest,.slice A2 s.keys.length c2,.slice A3 s.cases_.length c3]∧s.name.size≤maxLen∧s.dest.size≤maxLen∧
 Sl 1 cJ w B A1 s.takes∧Sl 9 Cg w B A2 s.keys∧Sl 3 GQ w B A3 s.cases_
theorem yL:f7 GR:=⟨fun ⟨A1,c1,A2,c2,A3,c3,e,hn,hd,h1,h2,h3⟩ hk=>⟨A1,c1,A2,c2,A3,c3,e,hn,hd,h1.keep aG hk,h2.keep oP hk,h3.keep yK hk⟩,
 fun ⟨A1,c1,A2,c2,A3,c3,e,hn,hd,h1,h2,h3⟩ hB=>⟨A1,c1,A2,c2,A3,c3,e,hn,hd,h1.more aG hB,h2.more oP hB,h3.more yK hB⟩⟩
structure Ac where
 name:ByteArray
 params:List Fd
 body:List St
def GS:CR Ac:=fun w B cs a=>∃ A1 c1 A2 c2,cs= [.string a.name,.slice A1 a.params.length c1,.slice A2 a.body.length c2]∧a.name.size≤maxLen∧Sl 2 FG w B A1 a.params∧Sl 14 Ch w B A2 a.body
theorem yM:f7 GS:=⟨fun ⟨A1,c1,A2,c2,e,hn,h1,h2⟩ hk=>⟨A1,c1,A2,c2,e,hn,h1.keep jq hk,h2.keep oQ hk⟩,fun ⟨A1,c1,A2,c2,e,hn,h1,h2⟩ hB=>⟨A1,c1,A2,c2,e,hn,h1.more jq hB,h2.more oQ hB⟩⟩
structure Ky where
 e:Ex
 kind:Int
def GT:CR Ky:=fun w B cs k=>∃ ecs,cs=ecs++ [.int .u8 k.kind]∧u8 k.kind∧Cg w B ecs k.e
theorem yN:f7 GT:=⟨fun ⟨ecs,e,hk,h⟩ hk'=>⟨ecs,e,hk,oP.keep h hk'⟩,fun ⟨ecs,e,hk,h⟩ hB=>⟨ecs,e,hk,oP.more h hB⟩⟩
structure Ta where
 name:ByteArray
 keys:List Ky
 actions:List ByteArray
 dname:ByteArray
 dargs:List Lt
def GU:CR Ta:=fun w B cs t=>∃ A1 c1 A2 c2 A3 c3,cs= [.string t.name,.slice A1 t.keys.length c1,.slice A2 t.actions.length c2,.string t.dname,.slice A3 t.dargs.length c3]∧t.name.size≤maxLen∧t.dname.size≤maxLen∧
 Sl 10 GT w B A1 t.keys∧Sl 1 cJ w B A2 t.actions∧Sl 3 GN w B A3 t.dargs
theorem yO:f7 GU:=⟨fun ⟨A1,c1,A2,c2,A3,c3,e,hn,hd,h1,h2,h3⟩ hk=>⟨A1,c1,A2,c2,A3,c3,e,hn,hd,h1.keep yN hk,h2.keep aG hk,h3.keep yH hk⟩,
 fun ⟨A1,c1,A2,c2,A3,c3,e,hn,hd,h1,h2,h3⟩ hB=>⟨A1,c1,A2,c2,A3,c3,e,hn,hd,h1.more yN hB,h2.more aG hB,h3.more yH hB⟩⟩
structure Pg where
 headers:List Hd
 metas:List Fd
 states:List Sa
 actions:List Ac
 tables:List Ta
 control:List St
 emit:List ByteArray
abbrev Hn (p:Pg) (A1 A2 A3 A4 A5 A6 A7:Option Addr) (c1 c2 c3 c4 c5 c6 c7:Nat):Array Value:=#[.slice A1 p.headers.length c1,.slice A2 p.metas.length c2,.slice A3 p.states.length c3,.slice A4 p.actions.length c4,.slice A5 p.tables.length c5,.slice A6 p.control.length c6,.slice A7 p.emit.length c7]
abbrev Ho (p:Pg) (A1 A2 A3 A4 A5 A6 A7:Option Addr) (c1 c2 c3 c4 c5 c6 c7:Nat) (a:Int):Array Value:=#[.slice A1 p.headers.length c1,.slice A2 p.metas.length c2,.slice A3 p.states.length c3,.slice A4 p.actions.length c4,.slice A5 p.tables.length c5,.slice A6 p.control.length c6,.slice A7 p.emit.length c7,.int .i64 a]
abbrev Hp (op:Int) (lit:Lt) (head name:ByteArray) (hi lo:Int) (A:Option Addr) (n cap:Nat):Array Value:=#[.int .u8 op,.int .i64 lit.1,.int .u64 lit.2.1,.int .u64 lit.2.2,.string head,.string name,.int .i64 hi,.int .i64 lo,.slice A n cap]
abbrev Hq (kind:Int) (h n:ByteArray) (op:Int) (lit:Lt) (head name:ByteArray) (hi lo:Int) (A:Option Addr) (k cap:Nat) (A1:Option Addr) (k1 c1:Nat) (A2:Option Addr) (k2 c2:Nat):Array Value:=#[.int .u8 kind,.string h,.string n,.int .u8 op,.int .i64 lit.1,.int .u64 lit.2.1,.int .u64 lit.2.2,.string head,.string name,.int .i64 hi,.int .i64 lo,.slice A k cap,.slice A1 k1 c1,.slice A2 k2 c2]
structure yy (w:World) (B:Nat) (A1 A2 A3 A4 A5 A6 A7:Option Addr) (p:Pg):Prop where
 headers:Sl 2 GO w B A1 p.headers
 metas:Sl 2 FG w B A2 p.metas
 states:Sl 5 GR w B A3 p.states
 actions:Sl 3 GS w B A4 p.actions
 tables:Sl 5 GU w B A5 p.tables
 control:Sl 14 Ch w B A6 p.control
 emit:Sl 1 cJ w B A7 p.emit
theorem yy.keep {w w':World} {B:Nat} {A1 A2 A3 A4 A5 A6 A7:Option Addr} {p:Pg} (h:yy w B A1 A2 A3 A4 A5 A6 A7 p) (hk:∀ p:Addr,p.block<B→w'.cell? p=w.cell? p):yy w' B A1 A2 A3 A4 A5 A6 A7 p:=
 ⟨h.1.keep yI hk,h.2.keep jq hk,h.3.keep yL hk,h.4.keep yM hk,h.5.keep yO hk,h.6.keep oQ hk,h.7.keep aG hk⟩
theorem yy.below {w w':World} {B:Nat} {A1 A2 A3 A4 A5 A6 A7:Option Addr} {p:Pg} (h:yy w B A1 A2 A3 A4 A5 A6 A7 p) (hb:Below B w w'):yy w' B A1 A2 A3 A4 A5 A6 A7 p:=h.keep fun _ hp=>hb.cell hp
section
open Go.Lib
def dt (c:Int):Bool:=decide (48≤c∧c≤57)
def kx (c:Int):Bool:=decide (97≤c∧c≤122∨65≤c∧c≤90∨c=95)
def bP (c:Int):Bool:=dt c ||kx c
def dL:List (List UInt8)→List UInt8
 | []=> []
 |w::r=>w++32::dL r
theorem kQ (x:List UInt8):∀ (w r:List UInt8),(32:UInt8)∉w→(0≤index (w++r) (32::x)↔0≤index r (32::x))
 | [],r,_=>by simp
 |b::w,r,h=>by
  simp only [HU,not_or] at h
  have ih:=kQ x w r h.2
  have g:=index_ge (w++r) (32::x)
  have hp:HY (32::x) (b::(w++r))=false:=by
   simp only [HY,Ib,beq_eq_false_iff_ne]
   exact .inl h.1
  simp only [List.cons_append,index,hp,H2,if_false]
  by_cases e:index (w++r) (32::x)= -1
  ·simp [e] at ih ⊢;exact ih
  ·simp only [beq_iff_eq,e,if_false];rw [←ih];omega
theorem jL:∀ (s w:List UInt8) (r:List UInt8),(32:UInt8)∉s→(32:UInt8)∉w→(HY (s++ [32]) (w++32::r)=true↔s=w)
 | [],[],r,_,_=>by simp [HY]
 | [],b::w,r,_,hw=>by
  simp only [HU,not_or] at hw
  simp [HY,hw.1]
 |a::s,[],r,hs,_=>by
  simp only [HU,not_or] at hs
  simp [HY]
  intro e;exact absurd e.symm hs.1
 |a::s,b::w,r,hs,hw=>by
  simp only [HU,not_or] at hs hw
  have ih:=jL s w r hs.2 hw.2
  simp [HY] at ih ⊢
  intro _;exact ih
theorem fM (s:List UInt8) (hs:(32:UInt8)∉s) (hne:s≠ []):∀ ws:List (List UInt8),(∀ w∈ws,(32:UInt8)∉w)→
  (0≤index (32::dL ws) (32::(s++ [32]))↔s∈ws)
 | [],_=>by
  cases s with
  |nil=>exact absurd rfl hne
  |cons a s=>simp [dL,index,HY]
 |w::r,hw=>by
  have ih:=fM s hs hne r (fun x hx=>hw x (List.mem_cons_of_mem _ hx))
  have hww:=hw w List.mem_cons_self
  have hp:=jL s w (dL r) hs hww
  have hk:=kQ (s++ [32]) w (32::dL r) hww
  have g:=index_ge (w++32::dL r) (32::(s++ [32]))
  have hq:HY (32::(s++ [32])) (32::(w++32::dL r))=HY (s++ [32]) (w++32::dL r):=by simp [HY]
  simp only [dL]
  unfold index
  rw [hq]
  by_cases e:s=w
  ·rw [hp.2 e];simp [e]
  ·have:HY (s++ [32]) (w++32::dL r)=false:=by
    rw [Bool.eq_false_iff];exact fun h=>e (hp.1 h)
   rw [this]
   simp only [H2,if_false,HU,e,false_or]
   rw [←ih,←hk]
   by_cases e2:index (w++32::dL r) (32::(s++ [32]))= -1
   ·simp [e2]
   ·simp only [beq_iff_eq,e2,if_false];omega
theorem nG (s:List UInt8):0≤index s [32]↔(32:UInt8)∈s:=by
 induction s with
 |nil=>simp [index]
 |cons b l ih=>
  have g:=index_ge l [32]
  by_cases e:b=32
  ·simp [index,HY,e]
  ·have e':¬(32:UInt8)=b:=fun h=>e h.symm
   simp only [index,HY,Bool.and_true,beq_iff_eq,e',if_false,HU,false_or,←ih]
   by_cases e2:index l [32]= -1
   ·simp [e2]
   ·simp only [e2,if_false];omega
def Dt:List (List UInt8):= ["header", "metadata", "bit", "parser", "state", "extract", "transition", "select", "accept", "reject", "default", "action", "table", "key", "actions", "exact", "lpm", "ternary", "control", "apply", "if", "else", "drop", "forward", "valid", "invalid", "deparser", "emit", "meta", "port", "isValid", "_"].map fun s=>s.toUTF8.data.toList
def Ci (s:ByteArray):Bool:=decide (s.data.toList∈Dt)
def p9 (s:ByteArray):Bool:=decide (1≤s.size∧s.size≤16)&& !dt ((s.data.toList.headD 0).toNat)&& !Ci s&&s.data.toList.all fun c=>bP c.toNat
theorem gG:∀ w∈Dt,(32:UInt8)∉w:=by decide+kernel
theorem nH: []∉Dt:=by decide+kernel
theorem DG (s:List UInt8) (t:List UInt8) (ht:t=32::dL Dt):
  (s≠ []∧contains s [32]=false∧contains t (32::(s++ [32]))=true)↔s∈Dt:=by
 subst ht
 unfold contains
 have h1:=nG s
 constructor
 ·rintro ⟨hne,hb,hc⟩
  simp only [decide_eq_false_iff_not,decide_eq_true_eq] at hb hc
  exact (fM s (fun h=>hb (h1.2 h)) hne Dt gG).1 hc
 ·intro h
  have hb:=gG s h
  have hne:s≠ []:=fun e=>nH (e ▸ h)
  refine ⟨hne,?_,?_⟩
  ·simp only [decide_eq_false_iff_not];exact fun g=>hb (h1.1 g)
  ·simp only [decide_eq_true_eq];exact (fM s hb hne Dt gG).2 h
theorem vz {s:ByteArray} (h:s.toList= []):Ci s=false:=by
 rw [ByteArray.toList_eq] at h
 simp only [Ci,h,decide_eq_false_iff_not];exact nH
theorem vA {s:ByteArray} (hb:contains s.data.toList (ByteArray.mk #[32]).data.toList=true):Ci s=false:=by
 have h1:(32:UInt8)∈s.data.toList:=(nG _).1 (by simpa [contains] using hb)
 simp only [Ci,decide_eq_false_iff_not];exact fun h=>gG _ h h1
theorem DH (s:ByteArray) (C:List UInt8) (hC:C=32::dL Dt) (h0:¬s.toList= []) (hb:contains s.data.toList (ByteArray.mk #[32]).data.toList=false):
  contains C (ByteArray.mk #[32]++s++ByteArray.mk #[32]).data.toList=Ci s:=by
 rw [ByteArray.toList_eq] at h0
 have e:(ByteArray.mk #[32]++s++ByteArray.mk #[32]).data.toList=32::(s.data.toList++ [32]):=by simp
 have:=DG s.data.toList C hC
 rw [HF,e,Ci,decide_eq_true_eq,←this]
 exact ⟨fun h=>⟨h0,hb,h⟩,fun h=>h.2.2⟩
def bA (l:List UInt8):Nat:=(l.takeWhile fun c=>bP c.toNat).length
theorem kR:∀ (l:List UInt8) (k:Nat) (hk:k<l.length),k≤bA l→bP (l[k].toNat:Nat)=true→k+1≤bA l
 | [],k,hk,_,_=>absurd hk (by simp)
 |c::l,0,_,_,hw=>by simp at hw;simp [bA,hw]
 |c::l,k+1,hk,hl,hw=>by
  by_cases hc:bP (c.toNat:Nat)=true
  ·have ih:=kR l k (by simpa using hk) (by simpa [bA,hc] using hl) (by simpa using hw)
   simpa [bA,hc] using ih
  ·simp [bA,hc] at hl
theorem kS:∀ (l:List UInt8) (k:Nat) (hk:k<l.length),k≤bA l→bP (l[k].toNat:Nat)=false→bA l=k
 | [],k,hk,_,_=>absurd hk (by simp)
 |c::l,0,_,_,hw=>by simp at hw;simp [bA,hw]
 |c::l,k+1,hk,hl,hw=>by
  by_cases hc:bP (c.toNat:Nat)=true
  ·have ih:=kS l k (by simpa using hk) (by simpa [bA,hc] using hl) (by simpa using hw)
   simpa [bA,hc] using ih
  ·simp [bA,hc] at hl
theorem kT:∀ l:List UInt8,bA l≤l.length
 | []=>by simp [bA]
 |c::l=>by
  have:=kT l
  by_cases hc:bP (c.toNat:Nat)=true<;>simp [bA,hc] at this ⊢;exact this
theorem nI:∀ l:List UInt8,bA l=l.length↔l.all (fun c=>bP c.toNat)=true
 | []=>by simp [bA]
 |c::l=>by
  have:=nI l
  by_cases hc:bP (c.toNat:Nat)=true<;>simp [bA,hc] at this ⊢;exact this
def gj (s:ByteArray):Nat:=bA s.data.toList
theorem vB {s:ByteArray} {k:Nat} (hk:k<s.size) (h:k≤gj s) (hw:bP (s[k].toNat:Nat)=true):k+1≤gj s:=
 kR _ k (by simpa using hk) h hw
theorem vC {s:ByteArray} {k:Nat} (hk:k<s.size) (h:k≤gj s) (hw:bP (s[k].toNat:Nat)=false):gj s=k:=
 kS _ k (by simpa using hk) h hw
theorem ux (s:ByteArray):gj s≤s.size:=by have:=kT s.data.toList;simpa [gj] using this
theorem yP {s:ByteArray} {k:Nat} (hk:k≤s.size) (hn:¬k<s.size) (h:k≤gj s):gj s=k:=by have:=ux s;omega
theorem vD (s:ByteArray):((s.extract 0 (gj s)).toList==s.toList)=s.data.toList.all fun c=>bP c.toNat:=by
 have ha:=nI s.data.toList
 have hl:=ux s
 rw [HF,←ha,ByteArray.toList_eq,ByteArray.toList_eq,beq_iff_eq]
 constructor
 ·intro h
  have:=congrArg List.length h
  simp at this
  simp [gj] at this hl ⊢;omega
 ·intro h
  have e:gj s=s.size:=by simpa [gj] using h
  rw [e];simp
theorem g7 {s:ByteArray} (h:0<s.size):s.toList.isEmpty=false:=by
 rw [ByteArray.toList_eq]
 have:s.data.toList.length=s.size:=by simp
 cases he:s.data.toList with
 |nil=>rw [he] at this;simp at this;omega
 |cons a l=>rfl
theorem iH {s:ByteArray} (h:¬0<s.size):s.toList.isEmpty=true:=by
 rw [ByteArray.toList_eq]
 have:s.data.toList.length=s.size:=by simp
 cases he:s.data.toList with
 |nil=>rfl
 |cons a l=>rw [he] at this;simp at this;omega
theorem qa {s:ByteArray} (h:0<s.size):s.data.toList.headD 0=s[0]:=by
 have e:s[0]=s.data.toList[0]'(by simpa using h):=by simp;rfl
 have g:∀ (l:List UInt8) (hl:0<l.length),l.headD 0=l[0]:=fun l hl=>by
  cases l with
  |nil=>simp at hl
  |cons a l=>simp
 rw [e];exact g _ _
theorem yQ (s:ByteArray):p9 s=(((s.extract 0 (gj s)).toList==s.toList)&& !s.toList.isEmpty&&decide (s.size≤16)&& !dt ((s.data.toList.headD 0).toNat:Nat)&& !Ci s):=by
 rw [vD]
 by_cases h0:0<s.size
 ·rw [g7 h0]
  have:(decide (1≤s.size∧s.size≤16))=decide (s.size≤16):=by simp;omega
  rw [p9,this]
  cases s.data.toList.all fun c=>bP (c.toNat:Nat)<;>simp
 ·rw [iH h0]
  have:(decide (1≤s.size∧s.size≤16))=false:=by simp;omega
  rw [p9,this];simp
instance:LawfulBEq ByteArray where
 eq_of_beq {a b} h:=by rw [Go.beq_toListBytes,beq_iff_eq,ByteArray.toList_eq,ByteArray.toList_eq] at h;exact Go.WideShapes.bytes_inj h
 rfl {a}:=by rw [Go.beq_toListBytes,beq_iff_eq]
end
def qc (l:Lt):Int:=l.2.1*18446744073709551616+l.2.2
def jM (w:Int) (l:Lt):Bool:=decide (qc l<2 ^ w.toNat)
def aj (w:Int):Bool:=decide (1≤w∧w≤128)
theorem eP (c:Int) (w:World):Calls prog 185 #[.int .u8 c] w fun e w'=>e=.returned (.bool (dt c))∧w=w':=by
 go_enter func185,ntmps185
 go_wp2
 all_goals
  go_ret
  exact ⟨pY (by simp [dt];omega),rfl⟩
theorem kU (c:Int) (w:World):Calls prog 208 #[.int .u8 c] w fun e w'=>e=.returned (.bool (bP c))∧w=w':=by
 go_enter func208,ntmps208
 go_wp2_with (go_at_call 185;refine (eP _ _).mono ?_;rintro e w' ⟨rfl,rfl⟩)
 all_goals
  go_ret
  refine ⟨pY ?_,rfl⟩
  simp only [dt,decide_eq_true_eq,decide_eq_false_iff_not] at*
  simp [bP,dt,kx];try omega
theorem fe (s:ByteArray) (w:World) (hs:s.size≤maxLen):
  Calls prog 183 #[.string s] w fun e w'=>e=.returned (.string (s.extract 0 (gj s)))∧w=w':=by
 have hl:s.size≤9223372036854775807:=hs
 go_enter func183,ntmps183
 go_wp2
 go_loop [3] (fun i=>∃ k:Nat,k≤s.size∧i=.int .i64 k∧k≤gj s) (fun i=>s.size-(intOf i).toNat)
 case atStart=>exact ⟨0,Hz _,rfl,Hz _⟩
 case round=>
  obtain ⟨k,hk,rfl,hc⟩:=hrel
  by_cases hlt:k<s.size
  ·go_wp2_with (go_at_call 208;refine (kU _ _).mono ?_;rintro e w' ⟨rfl,rfl⟩)
   ·go_round
    case rel=>exact ⟨k+1,by omega,by go_num,vB hlt hc ‹_›⟩
    case measure=>simp [intOf];omega
   ·go_ret
    rw [vC hlt hc ‹_›]
    exact ⟨rfl,rfl⟩
  ·go_wp2_with (go_at_call 208;refine (kU _ _).mono ?_;rintro e w' ⟨rfl,rfl⟩)
   go_ret
   rw [yP hk hlt hc]
   exact ⟨rfl,rfl⟩
theorem mV (s:ByteArray) (m:Int) (w:World) (hs:s.size<4294967281) (hm:w.cell? ⟨0,0,none⟩=some (.int .i64 m)):
  Calls prog 212 #[.string s] w fun e w'=>e=.returned (.bool (Ci s))∧w=w':=by
 go_enter func212,ntmps212
 by_cases h0:s.toList= []
 ·have h0':s.toList.isEmpty=true:=by simp [h0]
  go_wp2
  go_ret
  exact ⟨ad (vz h0).symm,rfl⟩
 ·have h0':s.toList.isEmpty=false:=by simp [h0]
  go_wp2_with fail
  refine (Tryz.strings_Contains _ _ m _ hs hm).mono ?_
  rintro e w' ⟨rfl,rfl⟩
  cases hb:Go.Lib.contains s.data.toList (ByteArray.mk #[32]).data.toList with
  |true=>
   go_wp2_with fail
   go_ret
   exact ⟨ad (vA hb).symm,rfl⟩
  |false=>
   go_wp2_with fail
   refine (Tryz.strings_Contains _ _ m _ (by decide+kernel) hm).mono ?_
   rintro e w' ⟨rfl,rfl⟩
   rw [DH s _ (by decide+kernel) h0 ‹_›]
   go_wp2_with fail
   go_ret
   exact ⟨rfl,rfl⟩
theorem sK (s:ByteArray) (m:Int) (w:World) (hs:s.size≤maxLen) (hm:w.cell? ⟨0,0,none⟩=some (.int .i64 m)):
  Calls prog 188 #[.string s] w fun e w'=>e=.returned (.bool (p9 s))∧w=w':=by
 have hn:=aa (yQ s)
 go_enter func188,ntmps188
 cases ha:((s.extract 0 (gj s)).toList==s.toList) with
 |false=>
  go_wp2_with (go_at_call 183;refine (fe _ _ hs).mono ?_;rintro e w' ⟨rfl,rfl⟩)
  go_ret
  exact ⟨ad (by rw [hn.out,ha];rfl),rfl⟩
 |true=>
  by_cases h0:0<s.size
  ·have h0':s.toList.isEmpty=false:=g7 h0
   by_cases h16:s.size≤16
   ·cases hd:dt (s[0].toNat:Nat) with
    |true=>
     go_wp2_with (first|(go_at_call 183;refine (fe _ _ hs).mono ?_;rintro e w' ⟨rfl,rfl⟩)|(go_at_call 185;refine (eP _ _).mono ?_;rintro e w' ⟨rfl,rfl⟩))
     go_ret
     exact ⟨ad (by rw [hn.out,qa h0,hd];simp),rfl⟩
    |false=>
     go_wp2_with (first|(go_at_call 183;refine (fe _ _ hs).mono ?_;rintro e w' ⟨rfl,rfl⟩)|(go_at_call 185;refine (eP _ _).mono ?_;rintro e w' ⟨rfl,rfl⟩)|(go_at_call 212;refine (mV _ m _ (by omega) hm).mono ?_;rintro e w' ⟨rfl,rfl⟩))
     go_ret
     exact ⟨ad (by rw [hn.out,qa h0,hd,ha,h0'];simp [h16]),rfl⟩
   ·go_wp2_with (go_at_call 183;refine (fe _ _ hs).mono ?_;rintro e w' ⟨rfl,rfl⟩)
    go_ret
    exact ⟨ad (by rw [hn.out];simp [h16]),rfl⟩
  ·have h0':s.toList.isEmpty=true:=iH h0
   go_wp2_with (go_at_call 183;refine (fe _ _ hs).mono ?_;rintro e w' ⟨rfl,rfl⟩)
   go_ret
   exact ⟨ad (by rw [hn.out,h0'];simp),rfl⟩
theorem gH (k:Int) (w:World) (h0:0≤k) (h1:k≤128):Calls prog 220 #[.int .i64 k] w fun e w'=>e=.returned (.int .u64 k)∧w=w':=by
 have e1:min k 128=k:=by omega
 have e2:max 0 k=k:=by omega
 go_enter func220,ntmps220
 go_wp2
 go_ret
 exact ⟨av (by simp [e1,e2]),rfl⟩
theorem yR:∀ k:Fin 64,(18446744073709551615 / 2 ^ k.val:Int)=2 ^ (64-k.val)-1∧bits .or .u64 (18446744073709551615 / 2 ^ k.val:Int) (IntKind.u64.wrap (18446744073709551615*2 ^ (64-k.val)))=18446744073709551615:=by decide+kernel
theorem vE:∀ k:Fin 64,(18446744073709551615 / 2 ^ k.val:Int)=2 ^ (64-k.val)-1:=by decide+kernel
theorem Cj (k:Nat) (w:World) (h1:k<64):Calls prog 219 #[.agg #[.int .u64 18446744073709551615,.int .u64 18446744073709551615],.int .i64 (k:Int)] w fun e w'=>e=.returned (.agg #[.int .u64 ((2:Int) ^ (64-k)-1),.int .u64 18446744073709551615])∧Below w.heap.size w w':=by
 obtain ⟨q1,q2⟩:=yR ⟨k,h1⟩
 replace q1:=aa q1
 replace q2:=aa q2
 go_enter func219,ntmps219
 go_wp2_with (go_at_call 220;refine (gH _ _ (by omega) (by omega)).mono ?_;rintro e w' ⟨rfl,rfl⟩)
 refine bodyPost_ret (v:=.agg #[.int .u64 (18446744073709551615 / 2 ^ k),.int .u64 (bits .or .u64 (18446744073709551615 / 2 ^ k:Int) (IntKind.u64.wrap (18446744073709551615*2 ^ (64-k))))]) (by simp [results,results219,go_sem]) rfl ⟨?_,((Hs _ _).alloc (Ht _) _).alloc (by simp) _⟩
 rw [q2.out,q1.out]
theorem yS (k:Nat) (w:World) (h1:k<64):Calls prog 219 #[.agg #[.int .u64 18446744073709551615,.int .u64 18446744073709551615],.int .i64 ((k:Int)+64)] w fun e w'=>e=.returned (.agg #[.int .u64 0,.int .u64 ((2:Int) ^ (64-k)-1)])∧Below w.heap.size w w':=by
 have q1:=aa (vE ⟨k,h1⟩)
 go_enter func219,ntmps219
 go_wp2_with (go_at_call 220;refine (gH _ _ (by omega) (by omega)).mono ?_;rintro e w' ⟨rfl,rfl⟩)
 refine bodyPost_ret (v:=.agg #[.int .u64 0,.int .u64 (18446744073709551615 / 2 ^ k)]) (by simp [results,results219,go_sem]) rfl ⟨?_,((Hs _ _).alloc (Ht _) _).alloc (by simp) _⟩
 rw [q1.out]
def aX (n:Nat):Int:=if n≤64 then 0 else 2 ^ (n-64)-1
def aP (n:Nat):Int:=if n≤64 then 2 ^ n-1 else 18446744073709551615
theorem uy (z:Int) (n:Nat) (w:World) (h1:1≤n) (h2:n≤128) (e1:min z 128=n) (e2:¬z<1):Calls prog 197 #[.int .i64 z] w fun e w'=>e=.returned (.agg #[.int .u64 (aX n),.int .u64 (aP n)])∧Below w.heap.size w w':=by
 obtain ⟨wa,hwa,hsa,hba,hca,hfa⟩:=af w #[.int .u64 0,.int .u64 0] 96
 obtain ⟨wb,hwb,hsb,hbb,hcb,-⟩:=af wa #[.int .u64 18446744073709551615,.int .u64 18446744073709551615] 96
 have hw:=hba.trans (hbb.mono (by omega))
 have x0:wb.cell? ⟨w.heap.size,0,none⟩=some (.int .u64 0):=(bj hbb w.heap.size 0 (by omega)).trans (hca 0)
 have x1:wb.cell? ⟨w.heap.size,1,none⟩=some (.int .u64 0):=(bj hbb w.heap.size 1 (by omega)).trans (hca 1)
 have f0:∀ i,wb.frozen? ⟨w.heap.size,i,none⟩=false:=fun i=>(FE hbb w.heap.size i (by omega)).trans (hfa i)
 simp only [hsa] at hcb
 have y0:wb.cell? ⟨w.heap.size+1,0,none⟩=some (.int .u64 18446744073709551615):=hcb 0
 have y1:wb.cell? ⟨w.heap.size+1,1,none⟩=some (.int .u64 18446744073709551615):=hcb 1
 have hz:w.heap.size<wb.heap.size:=by omega
 replace hw:=aa hw
 replace hsb:=aa hsb
 clear hca hcb hba hbb hfa
 by_cases h:n≤64
 ·have hk:=aa (yS (64-n) wb (by omega))
  have ek:(128:Int)-(n:Int)=((64-n:Nat):Int)+64:=by omega
  have hv:=aa (show aX n=0∧aP n=2 ^ (64-(64-n))-1 from by simp only [aX,aP,if_pos h];rw [show 64-(64-n)=n by omega];simp)
  go_enter func197,ntmps197
  go_wp2_with fail
  refine hk.out.mono ?_
  rintro e w1 ⟨rfl,hb⟩
  obtain ⟨hc,hf,hz1⟩:=fd hb
  replace hb:=aa hb
  go_wp2
  refine bodyPost_ret (v:=.agg #[.int .u64 0,.int .u64 ((2:Int) ^ (64-(64-n))-1)]) (by simp [results,results197,go_sem,hc,hz,x0,x1]) rfl ⟨by rw [hv.out.1,hv.out.2],?_⟩
  exact ((hw.out.trans (hb.out.mono (by omega))).setCell (by simp) _).setCell (by simp) _
 ·have hk:=aa (Cj (128-n) wb (by omega))
  have ek:(128:Int)-(n:Int)=((128-n:Nat):Int):=by omega
  have hv:=aa (show aX n=2 ^ (64-(128-n))-1∧aP n=18446744073709551615 from by simp only [aX,aP,if_neg h];rw [show 64-(128-n)=n-64 by omega];simp)
  go_enter func197,ntmps197
  go_wp2_with fail
  refine hk.out.mono ?_
  rintro e w1 ⟨rfl,hb⟩
  obtain ⟨hc,hf,hz1⟩:=fd hb
  replace hb:=aa hb
  go_wp2
  refine bodyPost_ret (v:=.agg #[.int .u64 ((2:Int) ^ (64-(128-n))-1),.int .u64 18446744073709551615]) (by simp [results,results197,go_sem,hc,hz,x0,x1]) rfl ⟨by rw [hv.out.1,hv.out.2],?_⟩
  exact ((hw.out.trans (hb.out.mono (by omega))).setCell (by simp) _).setCell (by simp) _
theorem yT (n:Nat) (w:World) (h1:1≤n) (h2:n≤128):Calls prog 197 #[.int .i64 (n:Int)] w fun e w'=>e=.returned (.agg #[.int .u64 (aX n),.int .u64 (aP n)])∧Below w.heap.size w w':=uy n n w h1 h2 (by omega) (by omega)
def aJ (a b:Int):Int:=bits .and .u64 a b
theorem qd (a b:Int) (w:World):Calls prog 170 #[.int .u64 a,.int .u64 b] w fun e w'=>e=.returned (.int .u64 (aJ a b))∧w'=w:=by
 go_enter func170,ntmps170
 go_wp2
 go_ret
 exact ⟨rfl,rfl⟩
theorem qe:∀ args w,(callFunc 170 args).run prog w=.ok (.enter 170 args) w:=enters_of func170 (by kernel_rfl) rfl
theorem yU (a b c d:Int) (w:World):Calls prog 169 #[.agg #[.int .u64 a,.int .u64 b],.agg #[.int .u64 c,.int .u64 d],.func (.func 170) #[] #[]] w fun e w'=>e=.returned (.agg #[.int .u64 (aJ a c),.int .u64 (aJ b d)])∧Below w.heap.size w w':=by
 have eg:=qe
 go_enter func169,ntmps169
 go_wp2_with fail
 refine wp_region_still_tail 13 (by kernel_rfl) (by kernel_rfl) ?_
 simp only [List.take_succ_cons,List.take_zero,List.drop_succ_cons,List.drop_zero]
 change wpStill _ _ (World.drew _) _ _ _
 iterate 5 still_step
 still_call (qd _ _ _)
 iterate 5 still_step
 still_call (qd _ _ _)
 still_step
 refine wpStill_nil ?_
 change wpList _ _ _ _ _ (World.drew _)
 have hb3:Below w.heap.size w (((w.alloc (.cells #[.int .u64 a,.int .u64 b] 96)).alloc (.cells #[.int .u64 c,.int .u64 d] 96)).alloc (.cells #[.int .u64 0,.int .u64 0] 96)).drew:=((((Hs _ _).alloc (Ht _) _).alloc (by simp) _).alloc (by simp;omega) _).drew
 have n0:(((w.alloc (.cells #[.int .u64 a,.int .u64 b] 96)).alloc (.cells #[.int .u64 c,.int .u64 d] 96)).alloc (.cells #[.int .u64 0,.int .u64 0] 96)).drew.heap[w.heap.size+1+1]? =some (.cells #[.int .u64 0,.int .u64 0] 96):=by
  have:=heap_alloc_new ((w.alloc (.cells #[.int .u64 a,.int .u64 b] 96)).alloc (.cells #[.int .u64 c,.int .u64 d] 96)) (.cells #[.int .u64 0,.int .u64 0] 96)
  rw [World.size_alloc,World.size_alloc] at this
  exact this
 generalize hwd:(((w.alloc (.cells #[.int .u64 a,.int .u64 b] 96)).alloc (.cells #[.int .u64 c,.int .u64 d] 96)).alloc (.cells #[.int .u64 0,.int .u64 0] 96)).drew=wd at hb3 n0
 clear hwd
 have m0:wd.cell? ⟨w.heap.size+1+1,0,none⟩=some (.int .u64 0):=by simp [World.cell?,n0]
 have m1:wd.cell? ⟨w.heap.size+1+1,1,none⟩=some (.int .u64 0):=by simp [World.cell?,n0]
 have m2:wd.frozen? ⟨w.heap.size+1+1,0,none⟩=false:=by simp [World.frozen?,n0]
 have m3:wd.frozen? ⟨w.heap.size+1+1,1,none⟩=false:=by simp [World.frozen?,n0]
 have m4:w.heap.size+1+1<wd.heap.size:=(Ir.1 n0).1
 replace hb3:=aa hb3
 replace n0:=aa n0
 go_wp2
 refine bodyPost_ret (v:=.agg #[.int .u64 (aJ a c),.int .u64 (aJ b d)]) (by simp [results,results169,go_sem,m0,m1,m4]) rfl ⟨rfl,(hb3.out.setCell (by simp;omega) _).setCell (by simp;omega) _⟩
theorem kB (a b c d:Int) (w:World):Calls prog 134 #[.agg #[.int .u64 a,.int .u64 b],.agg #[.int .u64 c,.int .u64 d]] w fun e w'=>e=.returned (.agg #[.int .u64 (aJ a c),.int .u64 (aJ b d)])∧Below w.heap.size w w':=by
 obtain ⟨wa,hwa,hsa,hba,hca,-⟩:=af w #[.int .u64 a,.int .u64 b] 96
 obtain ⟨wb,hwb,hsb,hbb,hcb,-⟩:=af wa #[.int .u64 c,.int .u64 d] 96
 obtain ⟨wc,hwc,hsc,hbc,hcc,hfc⟩:=af wb #[.int .u64 0,.int .u64 0] 96
 have hw:=hba.trans ((hbb.mono (by omega)).trans (hbc.mono (by omega)))
 have x0:wc.cell? ⟨w.heap.size,0,none⟩=some (.int .u64 a):=(bj hbc w.heap.size 0 (by omega)).trans ((bj hbb w.heap.size 0 (by omega)).trans (hca 0))
 have x1:wc.cell? ⟨w.heap.size,1,none⟩=some (.int .u64 b):=(bj hbc w.heap.size 1 (by omega)).trans ((bj hbb w.heap.size 1 (by omega)).trans (hca 1))
 simp only [hsa] at hcb
 have y0:wc.cell? ⟨w.heap.size+1,0,none⟩=some (.int .u64 c):=(bj hbc (w.heap.size+1) 0 (by omega)).trans (hcb 0)
 have y1:wc.cell? ⟨w.heap.size+1,1,none⟩=some (.int .u64 d):=(bj hbc (w.heap.size+1) 1 (by omega)).trans (hcb 1)
 simp only [hsb,hsa] at hcc hfc
 have z0:wc.cell? ⟨w.heap.size+1+1,0,none⟩=some (.int .u64 0):=hcc 0
 have z1:wc.cell? ⟨w.heap.size+1+1,1,none⟩=some (.int .u64 0):=hcc 1
 have hk3:w.heap.size+1+1<wc.heap.size:=by omega
 have hB:=aa (yU a b c d wc)
 replace hw:=aa hw
 replace hsc:=aa hsc
 clear hca hcb hcc hba hbb hbc
 go_enter func134,ntmps134
 go_wp2_with fail
 refine hB.out.mono ?_
 rintro e w1 ⟨rfl,hb⟩
 obtain ⟨hc,hf,hz1⟩:=fd hb
 replace hb:=aa hb
 have m0:w1.cell? ⟨w.heap.size+1+1,0,none⟩=some (.int .u64 0):=(hc _ _ hk3).trans z0
 have m1:w1.cell? ⟨w.heap.size+1+1,1,none⟩=some (.int .u64 0):=(hc _ _ hk3).trans z1
 have m2:w1.frozen? ⟨w.heap.size+1+1,0,none⟩=false:=(hf _ _ hk3).trans (hfc 0)
 have m3:w1.frozen? ⟨w.heap.size+1+1,1,none⟩=false:=(hf _ _ hk3).trans (hfc 1)
 have m4:w.heap.size+1+1<w1.heap.size:=by omega
 clear hc hf hfc
 go_wp2
 refine bodyPost_ret (v:=.agg #[.int .u64 (aJ a c),.int .u64 (aJ b d)]) (by simp [results,results134,go_sem,m0,m1,m4]) rfl ⟨rfl,((hw.out.trans (hb.out.mono (by omega))).setCell (by simp;omega) _).setCell (by simp;omega) _⟩
theorem yV (a b z mh ml:Int) (w:World) (hMk:∀ W,Calls prog 197 #[.int .i64 z] W fun e w'=>e=.returned (.agg #[.int .u64 mh,.int .u64 ml])∧Below W.heap.size W w'):Calls prog 168 #[.agg #[.int .u64 a,.int .u64 b],.int .i64 z] w fun e w'=>e=.returned (.agg #[.int .u64 (aJ a mh),.int .u64 (aJ b ml)])∧Below w.heap.size w w':=by
 obtain ⟨wa,hwa,hsa,hba,hca,-⟩:=af w #[.int .u64 a,.int .u64 b] 96
 obtain ⟨wc,hwc,hsc,hbc,hcc,hfc⟩:=af wa #[.int .u64 0,.int .u64 0] 96
 have hw:=hba.trans (hbc.mono (by omega))
 have x0:wc.cell? ⟨w.heap.size,0,none⟩=some (.int .u64 a):=(bj hbc w.heap.size 0 (by omega)).trans (hca 0)
 have x1:wc.cell? ⟨w.heap.size,1,none⟩=some (.int .u64 b):=(bj hbc w.heap.size 1 (by omega)).trans (hca 1)
 simp only [hsa] at hcc hfc
 have z0:wc.cell? ⟨w.heap.size+1,0,none⟩=some (.int .u64 0):=hcc 0
 have z1:wc.cell? ⟨w.heap.size+1,1,none⟩=some (.int .u64 0):=hcc 1
 have hk2:w.heap.size<wc.heap.size:=by omega
 have hk3:w.heap.size+1<wc.heap.size:=by omega
 have hM:=aa hMk
 have hA:=aa (fun W=>kB a b mh ml W)
 replace hw:=aa hw
 replace hsc:=aa hsc
 clear hca hcc hba hbc hMk
 go_enter func168,ntmps168
 go_wp2_with fail
 go_region_with (first|(go_at_call 197;refine (hM.out _).mono ?_;rintro e w1 ⟨rfl,hb⟩;have u0:w1.cell? ⟨w.heap.size,0,none⟩=some (.int .u64 a):=(hb.cell (p:=⟨w.heap.size,0,none⟩) hk2).trans x0;have u1:w1.cell? ⟨w.heap.size,1,none⟩=some (.int .u64 b):=(hb.cell (p:=⟨w.heap.size,1,none⟩) hk2).trans x1;have v0:w1.cell? ⟨w.heap.size+1,0,none⟩=some (.int .u64 0):=(hb.cell (p:=⟨w.heap.size+1,0,none⟩) hk3).trans z0;have v1:w1.cell? ⟨w.heap.size+1,1,none⟩=some (.int .u64 0):=(hb.cell (p:=⟨w.heap.size+1,1,none⟩) hk3).trans z1;have t0:w1.frozen? ⟨w.heap.size+1,0,none⟩=false:=(hb.frozen (p:=⟨w.heap.size+1,0,none⟩) hk3).trans (hfc 0);have t1:w1.frozen? ⟨w.heap.size+1,1,none⟩=false:=(hb.frozen (p:=⟨w.heap.size+1,1,none⟩) hk3).trans (hfc 1);have k1:w.heap.size+1<w1.heap.size:=Hr hk3 hb.size;replace hb:=aa hb)|(go_at_call 134;refine (hA.out _).mono ?_;rintro e w2 ⟨rfl,hb2⟩;have v2:w2.cell? ⟨w.heap.size+1,0,none⟩=some (.int .u64 0):=(hb2.cell (p:=⟨w.heap.size+1,0,none⟩) k1).trans v0;have v3:w2.cell? ⟨w.heap.size+1,1,none⟩=some (.int .u64 0):=(hb2.cell (p:=⟨w.heap.size+1,1,none⟩) k1).trans v1;have t2:w2.frozen? ⟨w.heap.size+1,0,none⟩=false:=(hb2.frozen (p:=⟨w.heap.size+1,0,none⟩) k1).trans t0;have t3:w2.frozen? ⟨w.heap.size+1,1,none⟩=false:=(hb2.frozen (p:=⟨w.heap.size+1,1,none⟩) k1).trans t1;have k2:w.heap.size+1<w2.heap.size:=Hr k1 hb2.size;replace hb2:=aa hb2))
 all_goals
  go_wp2
  refine bodyPost_ret (v:=.agg #[.int .u64 (aJ a mh),.int .u64 (aJ b ml)]) (by simp [results,results168,go_sem,v2,v3,k2]) rfl ⟨rfl,((((hw.out.drew).trans (hb.out.mono (by show w.heap.size≤wc.heap.size;omega))).trans (hb2.out.mono (by omega))).setCell (by simp) _).setCell (by simp) _⟩
theorem uz (a b:Int) (n:Nat) (w:World) (h1:1≤n) (h2:n≤128):Calls prog 168 #[.agg #[.int .u64 a,.int .u64 b],.int .i64 (n:Int)] w fun e w'=>e=.returned (.agg #[.int .u64 (aJ a (aX n)),.int .u64 (aJ b (aP n))])∧Below w.heap.size w w':=yV a b n _ _ w fun W=>yT n W h1 h2
end Go.Proofs.YtijcdfdbkffiaaaGreatDoor

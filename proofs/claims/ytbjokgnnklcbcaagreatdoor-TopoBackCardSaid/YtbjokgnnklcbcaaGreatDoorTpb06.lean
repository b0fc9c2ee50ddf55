import Derived.Test.YtbjokgnnklcbcaaGreatDoorTpb03
import Derived.Test.YtbjokgnnklcbcaaGreatDoorTpb01
set_option linter.all false
/-! Programs as trees, and how they lie in memory. -/
namespace Go.Proofs.YtbjokgnnklcbcaaGreatDoor
open Go.RowKit
/-- A width and a number's two halves. -/
abbrev Lt := Int × Int × Int
inductive Ex where
 | mk (op : Int) (lit : Lt) (head name : ByteArray) (hi lo : Int) (args : List Ex)
inductive St where
 | mk (kind : Int) (head name : ByteArray) (e : Ex) (thn els : List St)
def u64 (n : Int) : Prop := 0 ≤ n ∧ n < 18446744073709551616
def u8 (n : Int) : Prop := 0 ≤ n ∧ n < 256
def i64 (n : Int) : Prop := -9223372036854775808 ≤ n ∧ n < 9223372036854775808
def okLt (l : Lt) : Prop := i64 l.1 ∧ u64 l.2.1 ∧ u64 l.2.2
def ltC (l : Lt) : List Value := [.int .i64 l.1, .int .u64 l.2.1, .int .u64 l.2.2]
def rLt : CR Lt := fun _ _ cs l => cs = ltC l ∧ okLt l
theorem sta_lt : Sta rLt := ⟨fun h _ => h, fun h _ => h⟩
/-- An expression's cells. -/
def exC (op : Int) (lit : Lt) (head name : ByteArray) (hi lo : Int) (A : Option Addr) (n cap : Nat) : List Value :=
 [.int .u8 op, .int .i64 lit.1, .int .u64 lit.2.1, .int .u64 lit.2.2, .string head, .string name, .int .i64 hi, .int .i64 lo, .slice A n cap]
inductive RE (w : World) (B : Nat) : List Value → Ex → Prop
 | mk (op : Int) (lit : Lt) (head name : ByteArray) (hi lo : Int) (args : List Ex) (A : Option Addr) (cap b o : Nat) (C : Nat → List Value)
   (h0 : u8 op ∧ okLt lit ∧ head.size ≤ maxLen ∧ name.size ≤ maxLen ∧ i64 hi ∧ i64 lo) (hl : args.length ≤ maxLen)
   (hA : ∀ i, i < args.length → A = some ⟨b, o, none⟩ ∧ b < B ∧ (C i).length = 9 ∧ ∀ j u, (C i)[j]? = some u → w.cell? ⟨b, o + i * 9 + j, none⟩ = some u)
   (h : ∀ i x, args[i]? = some x → RE w B (C i) x) : RE w B (exC op lit head name hi lo A args.length cap) (.mk op lit head name hi lo args)
/-- How great a reading may be at most. -/
def sm : Nat := 1048576
mutual
def depthE : Ex → Nat
 | .mk _ _ _ _ _ _ args => depthL args + 1
def depthL : List Ex → Nat
 | [] => 0
 | x :: l => max (depthE x) (depthL l)
end
theorem depth_mem {x : Ex} : ∀ {l : List Ex}, x ∈ l → depthE x ≤ depthL l
 | [], h => by simp at h
 | y :: l, h => by
  simp only [depthL]
  rcases List.mem_cons.1 h with rfl | h
  ·omega
  ·have := depth_mem h; omega
def rEx : CR Ex := fun w B cs e => RE w B cs e ∧ depthE e ≤ sm
theorem RE.keep {w w' : World} {B : Nat} {cs : List Value} {x : Ex} (hk : ∀ p : Addr, p.block < B → w'.cell? p = w.cell? p) (h : RE w B cs x) : RE w' B cs x := by
 induction h with
 | mk op lit head name hi lo args A cap b o C h0 hl hA _ ih =>
  exact .mk op lit head name hi lo args A cap b o C h0 hl (fun i hi => ⟨(hA i hi).1, (hA i hi).2.1, (hA i hi).2.2.1, fun j u hu => (hk _ (hA i hi).2.1).trans ((hA i hi).2.2.2 j u hu)⟩) ih
theorem RE.more {w : World} {B B' : Nat} {cs : List Value} {x : Ex} (hB : B ≤ B') (h : RE w B cs x) : RE w B' cs x := by
 induction h with
 | mk op lit head name hi lo args A cap b o C h0 hl hA _ ih =>
  exact .mk op lit head name hi lo args A cap b o C h0 hl (fun i hi => ⟨(hA i hi).1, Nat.lt_of_lt_of_le (hA i hi).2.1 hB, (hA i hi).2.2⟩) ih
theorem sta_ex : Sta rEx := ⟨fun h hk => ⟨RE.keep hk h.1, h.2⟩, fun h hB => ⟨RE.more hB h.1, h.2⟩⟩
theorem RE.inv {w : World} {B : Nat} {cs : List Value} {op : Int} {lit : Lt} {head name : ByteArray} {hi lo : Int} {args : List Ex} (h : rEx w B cs (.mk op lit head name hi lo args)) :
  ∃ A cap, cs = exC op lit head name hi lo A args.length cap ∧ u8 op ∧ okLt lit ∧ head.size ≤ maxLen ∧ name.size ≤ maxLen ∧ i64 hi ∧ i64 lo ∧ Sl 9 rEx w B A args := by
 obtain ⟨h, hd⟩ := h
 cases h with
 | mk _ _ _ _ _ _ _ A cap b o C h0 hl hA h =>
  refine ⟨A, cap, rfl, h0.1, h0.2.1, h0.2.2.1, h0.2.2.2.1, h0.2.2.2.2.1, h0.2.2.2.2.2, hl, fun i x hx => ?_⟩
  have := hA i (List.getElem?_eq_some_iff.1 hx).1
  have hdx := depth_mem (List.mem_of_getElem? hx)
  simp only [depthE] at hd
  exact ⟨b, o, C i, this.1, this.2.1, this.2.2.1, this.2.2.2, h i x hx, by omega⟩
theorem exists_fun {α : Type} {p : Nat → α → Prop} (d : α) (n : Nat) (h : ∀ i, i < n → ∃ a, p i a) : ∃ C : Nat → α, ∀ i, i < n → p i (C i) :=
 ⟨fun i => if hi : i < n then (h i hi).choose else d, fun i hi => by show p i (if hi : i < n then (h i hi).choose else d); rw [dif_pos hi]; exact (h i hi).choose_spec⟩
/-- What a slice's rows are, with one base and the rows' cells chosen. -/
theorem Sl.rows {α : Type} {R : CR α} {k : Nat} {w : World} {B : Nat} {A : Option Addr} {xs : List α} (h : Sl k R w B A xs) :
  ∃ (b o : Nat) (C : Nat → List Value), (∀ i, i < xs.length → A = some ⟨b, o, none⟩ ∧ b < B ∧ (C i).length = k ∧ ∀ j u, (C i)[j]? = some u → w.cell? ⟨b, o + i * k + j, none⟩ = some u) ∧ ∀ i x, xs[i]? = some x → R w B (C i) x := by
 by_cases hz : 0 < xs.length
 ·obtain ⟨b, o, _, hA, hb, _⟩ := h.2 0 _ (List.getElem?_eq_getElem hz)
  obtain ⟨C, hC⟩ := exists_fun (p := fun i cs => cs.length = k ∧ (∀ j u, cs[j]? = some u → w.cell? ⟨b, o + i * k + j, none⟩ = some u) ∧ ∀ x, xs[i]? = some x → R w B cs x) [] xs.length (fun i hi => by
   obtain ⟨b', o', ecs, hA', hb', hl, hc, hr⟩ := h.2 i _ (List.getElem?_eq_getElem hi)
   rw [hA] at hA'
   injection hA' with hA'
   injection hA' with e1 e2
   subst e1 e2
   exact ⟨ecs, hl, hc, fun x hx => by rw [List.getElem?_eq_getElem hi] at hx; injection hx with hx; subst hx; exact hr⟩)
  exact ⟨b, o, C, fun i hi => ⟨hA, hb, (hC i hi).1, (hC i hi).2.1⟩, fun i x hx => (hC i (List.getElem?_eq_some_iff.1 hx).1).2.2 x hx⟩
 ·exact ⟨0, 0, fun _ => [], fun i hi => absurd hi (by omega), fun i x hx => absurd (List.getElem?_eq_some_iff.1 hx).1 (by omega)⟩
theorem RE.intro {w : World} {B : Nat} {op : Int} {lit : Lt} {head name : ByteArray} {hi lo : Int} {args : List Ex} {A : Option Addr} {cap : Nat}
  (h0 : u8 op ∧ okLt lit ∧ head.size ≤ maxLen ∧ name.size ≤ maxLen ∧ i64 hi ∧ i64 lo) (hd : depthL args < sm) (h : Sl 9 rEx w B A args) : rEx w B (exC op lit head name hi lo A args.length cap) (.mk op lit head name hi lo args) := by
 obtain ⟨b, o, C, hA, hC⟩ := h.rows
 exact ⟨.mk op lit head name hi lo args A cap b o C h0 h.1 hA fun i x hx => (hC i x hx).1, by simp only [depthE]; omega⟩
/-- A statement's cells. -/
def stC (kind : Int) (head name : ByteArray) (ecs : List Value) (A : Option Addr) (n cap : Nat) (A' : Option Addr) (n' cap' : Nat) : List Value :=
 .int .u8 kind :: .string head :: .string name :: (ecs ++ [.slice A n cap, .slice A' n' cap'])
inductive RS (w : World) (B : Nat) : List Value → St → Prop
 | mk (kind : Int) (head name : ByteArray) (e : Ex) (thn els : List St) (ecs : List Value) (A A' : Option Addr) (cap cap' b o b' o' : Nat) (C C' : Nat → List Value)
   (h0 : u8 kind ∧ head.size ≤ sm ∧ name.size ≤ sm) (hz : thn.length ≤ sm ∧ els.length ≤ sm) (he : RE w B ecs e ∧ depthE e ≤ sm) (hl : thn.length ≤ maxLen) (hl' : els.length ≤ maxLen)
   (hA : ∀ i, i < thn.length → A = some ⟨b, o, none⟩ ∧ b < B ∧ (C i).length = 14 ∧ ∀ j u, (C i)[j]? = some u → w.cell? ⟨b, o + i * 14 + j, none⟩ = some u)
   (hA' : ∀ i, i < els.length → A' = some ⟨b', o', none⟩ ∧ b' < B ∧ (C' i).length = 14 ∧ ∀ j u, (C' i)[j]? = some u → w.cell? ⟨b', o' + i * 14 + j, none⟩ = some u)
   (h : ∀ i x, thn[i]? = some x → RS w B (C i) x) (h' : ∀ i x, els[i]? = some x → RS w B (C' i) x) :
   RS w B (stC kind head name ecs A thn.length cap A' els.length cap') (.mk kind head name e thn els)
def rSt : CR St := fun w B cs s => RS w B cs s
theorem RS.keep {w w' : World} {B : Nat} {cs : List Value} {x : St} (hk : ∀ p : Addr, p.block < B → w'.cell? p = w.cell? p) (h : RS w B cs x) : RS w' B cs x := by
 induction h with
 | mk kind head name e thn els ecs A A' cap cap' b o b' o' C C' h0 hz he hl hl' hA hA' _ _ ih ih' =>
  exact .mk kind head name e thn els ecs A A' cap cap' b o b' o' C C' h0 hz ⟨he.1.keep hk, he.2⟩ hl hl' (fun i hi => ⟨(hA i hi).1, (hA i hi).2.1, (hA i hi).2.2.1, fun j u hu => (hk _ (hA i hi).2.1).trans ((hA i hi).2.2.2 j u hu)⟩)
   (fun i hi => ⟨(hA' i hi).1, (hA' i hi).2.1, (hA' i hi).2.2.1, fun j u hu => (hk _ (hA' i hi).2.1).trans ((hA' i hi).2.2.2 j u hu)⟩) ih ih'
theorem RS.more {w : World} {B B' : Nat} {cs : List Value} {x : St} (hB : B ≤ B') (h : RS w B cs x) : RS w B' cs x := by
 induction h with
 | mk kind head name e thn els ecs A A' cap cap' b o b' o' C C' h0 hz he hl hl' hA hA' _ _ ih ih' =>
  exact .mk kind head name e thn els ecs A A' cap cap' b o b' o' C C' h0 hz ⟨he.1.more hB, he.2⟩ hl hl' (fun i hi => ⟨(hA i hi).1, Nat.lt_of_lt_of_le (hA i hi).2.1 hB, (hA i hi).2.2⟩)
   (fun i hi => ⟨(hA' i hi).1, Nat.lt_of_lt_of_le (hA' i hi).2.1 hB, (hA' i hi).2.2⟩) ih ih'
theorem sta_st : Sta rSt := ⟨fun h hk => RS.keep hk h, fun h hB => RS.more hB h⟩
theorem RS.inv {w : World} {B : Nat} {cs : List Value} {kind : Int} {head name : ByteArray} {e : Ex} {thn els : List St} (h : rSt w B cs (.mk kind head name e thn els)) :
  ∃ ecs A cap A' cap', cs = stC kind head name ecs A thn.length cap A' els.length cap' ∧ u8 kind ∧ head.size ≤ sm ∧ name.size ≤ sm ∧ rEx w B ecs e ∧ Sl 14 rSt w B A thn ∧ Sl 14 rSt w B A' els := by
 cases h with
 | mk _ _ _ _ _ _ ecs A A' cap cap' b o b' o' C C' h0 hz he hl hl' hA hA' h h' =>
  refine ⟨ecs, A, cap, A', cap', rfl, h0.1, h0.2.1, h0.2.2, he, ⟨hl, fun i x hx => ?_⟩, ⟨hl', fun i x hx => ?_⟩⟩
  ·have := hA i (List.getElem?_eq_some_iff.1 hx).1
   exact ⟨b, o, C i, this.1, this.2.1, this.2.2.1, this.2.2.2, h i x hx⟩
  ·have := hA' i (List.getElem?_eq_some_iff.1 hx).1
   exact ⟨b', o', C' i, this.1, this.2.1, this.2.2.1, this.2.2.2, h' i x hx⟩
theorem RS.intro {w : World} {B : Nat} {kind : Int} {head name : ByteArray} {e : Ex} {thn els : List St} {ecs : List Value} {A A' : Option Addr} {cap cap' : Nat}
  (h0 : u8 kind ∧ head.size ≤ sm ∧ name.size ≤ sm) (hz : thn.length ≤ sm ∧ els.length ≤ sm) (he : rEx w B ecs e) (h : Sl 14 rSt w B A thn) (h' : Sl 14 rSt w B A' els) :
  rSt w B (stC kind head name ecs A thn.length cap A' els.length cap') (.mk kind head name e thn els) := by
 obtain ⟨b, o, C, hA, hC⟩ := h.rows
 obtain ⟨b', o', C', hA', hC'⟩ := h'.rows
 exact .mk kind head name e thn els ecs A A' cap cap' b o b' o' C C' h0 hz he h.1 h'.1 hA hA' hC hC'
/-- A name and a width. -/
abbrev Fd := ByteArray × Int
def rFd : CR Fd := fun _ _ cs f => cs = [.string f.1, .int .i64 f.2] ∧ f.1.size ≤ maxLen ∧ i64 f.2
theorem sta_fd : Sta rFd := ⟨fun h _ => h, fun h _ => h⟩
structure Hd where
 name : ByteArray
 fields : List Fd
def rHd : CR Hd := fun w B cs h => ∃ A cap, cs = [.string h.name, .slice A h.fields.length cap] ∧ h.name.size ≤ maxLen ∧ Sl 2 rFd w B A h.fields
theorem sta_hd : Sta rHd := ⟨fun ⟨A, cap, e, hn, h⟩ hk => ⟨A, cap, e, hn, h.keep sta_fd hk⟩, fun ⟨A, cap, e, hn, h⟩ hB => ⟨A, cap, e, hn, h.more sta_fd hB⟩⟩
structure Se where
 kind : Int
 v : Lt
 m : Lt
def rSe : CR Se := fun _ _ cs s => cs = .int .u8 s.kind :: (ltC s.v ++ ltC s.m) ∧ u8 s.kind ∧ okLt s.v ∧ okLt s.m
theorem sta_se : Sta rSe := ⟨fun h _ => h, fun h _ => h⟩
structure Ca where
 dflt : Bool
 sets : List Se
 dest : ByteArray
def rCa : CR Ca := fun w B cs c => ∃ A cap, cs = [.bool c.dflt, .slice A c.sets.length cap, .string c.dest] ∧ c.dest.size ≤ maxLen ∧ Sl 7 rSe w B A c.sets
theorem sta_ca : Sta rCa := ⟨fun ⟨A, cap, e, hn, h⟩ hk => ⟨A, cap, e, hn, h.keep sta_se hk⟩, fun ⟨A, cap, e, hn, h⟩ hB => ⟨A, cap, e, hn, h.more sta_se hB⟩⟩
structure Sa where
 name : ByteArray
 takes : List ByteArray
 dest : ByteArray
 keys : List Ex
 cases_ : List Ca
def rSa : CR Sa := fun w B cs s => ∃ A1 c1 A2 c2 A3 c3, cs = [.string s.name, .slice A1 s.takes.length c1, .string s.dest, .slice A2 s.keys.length c2, .slice A3 s.cases_.length c3] ∧ s.name.size ≤ maxLen ∧ s.dest.size ≤ maxLen ∧
 Sl 1 rStr w B A1 s.takes ∧ Sl 9 rEx w B A2 s.keys ∧ Sl 3 rCa w B A3 s.cases_
theorem sta_sa : Sta rSa := ⟨fun ⟨A1, c1, A2, c2, A3, c3, e, hn, hd, h1, h2, h3⟩ hk => ⟨A1, c1, A2, c2, A3, c3, e, hn, hd, h1.keep sta_str hk, h2.keep sta_ex hk, h3.keep sta_ca hk⟩,
 fun ⟨A1, c1, A2, c2, A3, c3, e, hn, hd, h1, h2, h3⟩ hB => ⟨A1, c1, A2, c2, A3, c3, e, hn, hd, h1.more sta_str hB, h2.more sta_ex hB, h3.more sta_ca hB⟩⟩
structure Ac where
 name : ByteArray
 params : List Fd
 body : List St
def rAc : CR Ac := fun w B cs a => ∃ A1 c1 A2 c2, cs = [.string a.name, .slice A1 a.params.length c1, .slice A2 a.body.length c2] ∧ a.name.size ≤ maxLen ∧ Sl 2 rFd w B A1 a.params ∧ Sl 14 rSt w B A2 a.body
theorem sta_ac : Sta rAc := ⟨fun ⟨A1, c1, A2, c2, e, hn, h1, h2⟩ hk => ⟨A1, c1, A2, c2, e, hn, h1.keep sta_fd hk, h2.keep sta_st hk⟩, fun ⟨A1, c1, A2, c2, e, hn, h1, h2⟩ hB => ⟨A1, c1, A2, c2, e, hn, h1.more sta_fd hB, h2.more sta_st hB⟩⟩
structure Ky where
 e : Ex
 kind : Int
def rKy : CR Ky := fun w B cs k => ∃ ecs, cs = ecs ++ [.int .u8 k.kind] ∧ u8 k.kind ∧ rEx w B ecs k.e
theorem sta_ky : Sta rKy := ⟨fun ⟨ecs, e, hk, h⟩ hk' => ⟨ecs, e, hk, sta_ex.keep h hk'⟩, fun ⟨ecs, e, hk, h⟩ hB => ⟨ecs, e, hk, sta_ex.more h hB⟩⟩
structure Ta where
 name : ByteArray
 keys : List Ky
 actions : List ByteArray
 dname : ByteArray
 dargs : List Lt
def rTa : CR Ta := fun w B cs t => ∃ A1 c1 A2 c2 A3 c3, cs = [.string t.name, .slice A1 t.keys.length c1, .slice A2 t.actions.length c2, .string t.dname, .slice A3 t.dargs.length c3] ∧ t.name.size ≤ maxLen ∧ t.dname.size ≤ maxLen ∧
 Sl 10 rKy w B A1 t.keys ∧ Sl 1 rStr w B A2 t.actions ∧ Sl 3 rLt w B A3 t.dargs
theorem sta_ta : Sta rTa := ⟨fun ⟨A1, c1, A2, c2, A3, c3, e, hn, hd, h1, h2, h3⟩ hk => ⟨A1, c1, A2, c2, A3, c3, e, hn, hd, h1.keep sta_ky hk, h2.keep sta_str hk, h3.keep sta_lt hk⟩,
 fun ⟨A1, c1, A2, c2, A3, c3, e, hn, hd, h1, h2, h3⟩ hB => ⟨A1, c1, A2, c2, A3, c3, e, hn, hd, h1.more sta_ky hB, h2.more sta_str hB, h3.more sta_lt hB⟩⟩
structure Pg where
 headers : List Hd
 metas : List Fd
 states : List Sa
 actions : List Ac
 tables : List Ta
 control : List St
 emit : List ByteArray
/-- A program's seven slices lie. -/
structure PgS (w : World) (B : Nat) (A1 A2 A3 A4 A5 A6 A7 : Option Addr) (p : Pg) : Prop where
 headers : Sl 2 rHd w B A1 p.headers
 metas : Sl 2 rFd w B A2 p.metas
 states : Sl 5 rSa w B A3 p.states
 actions : Sl 3 rAc w B A4 p.actions
 tables : Sl 5 rTa w B A5 p.tables
 control : Sl 14 rSt w B A6 p.control
 emit : Sl 1 rStr w B A7 p.emit
theorem PgS.keep {w w' : World} {B : Nat} {A1 A2 A3 A4 A5 A6 A7 : Option Addr} {p : Pg} (h : PgS w B A1 A2 A3 A4 A5 A6 A7 p) (hk : ∀ p : Addr, p.block < B → w'.cell? p = w.cell? p) : PgS w' B A1 A2 A3 A4 A5 A6 A7 p :=
 ⟨h.1.keep sta_hd hk, h.2.keep sta_fd hk, h.3.keep sta_sa hk, h.4.keep sta_ac hk, h.5.keep sta_ta hk, h.6.keep sta_st hk, h.7.keep sta_str hk⟩
theorem PgS.below {w w' : World} {B : Nat} {A1 A2 A3 A4 A5 A6 A7 : Option Addr} {p : Pg} (h : PgS w B A1 A2 A3 A4 A5 A6 A7 p) (hb : Below B w w') : PgS w' B A1 A2 A3 A4 A5 A6 A7 p := h.keep fun _ hp => hb.cell hp
end Go.Proofs.YtbjokgnnklcbcaaGreatDoor
/-! Plain: which programs may be, what names mean, a program's items, and what is wrong with one. -/
namespace Go.Proofs.YtbjokgnnklcbcaaGreatDoor
def numV (l : Lt) : Int := l.2.1 * 18446744073709551616 + l.2.2
def fitsB (w : Int) (l : Lt) : Bool := decide (numV l < 2 ^ w.toNat)
end Go.Proofs.YtbjokgnnklcbcaaGreatDoor

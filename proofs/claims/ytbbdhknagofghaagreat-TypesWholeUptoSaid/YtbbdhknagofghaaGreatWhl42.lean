import Derived.Test.YtbbdhknagofghaaGreatWhl30
import Derived.Test.YtbbdhknagofghaaGreatWhl35
import Derived.Maps.AppendAt
import Derived.Laws.OwnMore
import Derived.Deep.AppendLies
import Derived.OwnWalk
import Derived.Test.YtbbdhknagofghaaGreatWhl33
set_option linter.all false
/-! Items in a row that a call has made: what append makes of them. -/
namespace Go.Proofs.YtbbdhknagofghaaGreat
open Go.RowKit
/-- append, kept from being opened. -/
def AppG (ts : Array TypeId) (ty : TypeId) (args : Array Value) : Sem Value := Builtin.append_ ts ty args
theorem app_eq (ts : Array TypeId) (ty : TypeId) (args : Array Value) : Builtin.append_ ts ty args = AppG ts ty args := rfl
theorem item_info : (Tryz.prog.info? 49).map (fun i => (i.zero, i.size, i.bytes)) = some (some (.agg #[.int .u8 0, .int .i64 0, .int .i64 0, .int .u8 0, .string ⟨#[]⟩, .string ⟨#[]⟩, .int .u8 0, .int .i64 0, .int .u64 0, .int .u64 0, .string ⟨#[]⟩, .string ⟨#[]⟩, .int .i64 0, .int .i64 0, .slice none 0 0, .slice none 0 0, .slice none 0 0]), 17, 216) := by kernel_rfl
theorem own_belowR {w w' : World} {base B : Nat} {e : TypeId} {size : Nat} {v : Value} {n : Nat} {xs : List Value} (h : w.ownsRow base e size v n xs) (hb : Below B w w') (hB : w.heap.size ≤ B) : w'.ownsRow base e size v n xs := by
 refine ⟨h.1, ?_⟩
 rcases h.2 with h2 | ⟨g, cap, cur, rfl, hg, hh, r⟩
 ·exact .inl h2
 ·have := (h.lt g rfl).2
  exact .inr ⟨g, cap, cur, rfl, hg, (hb.block g (by omega)).trans hh, r⟩
theorem flat17 : ∀ (Z : List (List Value × It)), (∀ z ∈ Z, z.1.length = 17) → ∀ (i j : Nat) (z : List Value × It) (u : Value), Z[i]? = some z → z.1[j]? = some u → (Z.flatMap Prod.fst)[i * 17 + j]? = some u
 | [], _, i, j, x, u, h, _ => by simp at h
 | y :: xs, _, 0, j, x, u, h, hu => by
  simp at h; subst h
  have : j < y.1.length := (List.getElem?_eq_some_iff.1 hu).1
  simp [List.flatMap_cons, List.getElem?_append_left this, hu]
 | y :: xs, hf, i + 1, j, x, u, h, hu => by
  have ih := flat17 xs (fun z hz => hf z (List.mem_cons_of_mem _ hz)) i j x u (by simpa using h) hu
  have hy := hf y List.mem_cons_self
  rw [List.flatMap_cons, List.getElem?_append_right (by rw [hy, Nat.add_mul]; omega), ← ih]
  congr 1
  rw [hy, Nat.add_mul]; omega
/-- How many items a list may have at most. -/
def bigI : Nat := 100000000
/-- Items in a row of the call's own. -/
def ItS (w : World) (base B : Nat) (v : Value) (l : List It) : Prop :=
 ∃ Z : List (List Value × It), l = Z.map Prod.snd ∧ (∀ z ∈ Z, z.1.length = 17 ∧ (∀ u ∈ z.1, u.oneCell' = true) ∧ rIt w B z.1 z.2) ∧ w.ownsRow base 49 17 v l.length (Z.flatMap Prod.fst)
theorem ItS.nil_ (w : World) (base B : Nat) : ItS w base B (.slice none 0 0) [] := ⟨[], rfl, by simp, World.ownsRow_nil _ _ _ _⟩
theorem ItS.below {w w' : World} {base B C : Nat} {v : Value} {l : List It} (h : ItS w base B v l) (hb : Below C w w') (hC : w.heap.size ≤ C) (hB : B ≤ w.heap.size) : ItS w' base B v l := by
 obtain ⟨Z, h1, h2, h3⟩ := h
 exact ⟨Z, h1, fun z hz => ⟨(h2 z hz).1, (h2 z hz).2.1, sta_it.keep (h2 z hz).2.2 fun q hq => hb.cell (Nat.lt_of_lt_of_le hq (Nat.le_trans hB hC))⟩, own_belowR h3 hb hC⟩
theorem ItS.form {w : World} {base B : Nat} {v : Value} {l : List It} (h : ItS w base B v l) : ∃ A cap, v = .slice A l.length cap := by
 obtain ⟨Z, h1, h2, h3⟩ := h
 rcases h3.2 with ⟨rfl, hz⟩ | ⟨g, cap, cur, rfl, _⟩
 ·exact ⟨none, 0, by rw [hz]⟩
 ·exact ⟨_, _, rfl⟩
theorem sum17 : ∀ Z : List (List Value × It), (∀ z ∈ Z, z.1.length = 17) → (Z.flatMap Prod.fst).length = Z.length * 17
 | [], _ => rfl
 | z :: Z, h => by
  have h1 := h z List.mem_cons_self
  have h2 := sum17 Z fun y hy => h y (List.mem_cons_of_mem _ hy)
  simp only [List.flatMap_cons, List.length_append, List.length_cons, h1, h2]; omega
theorem ItS.one {Z : List (List Value × It)} {w : World} {B : Nat} (h2 : ∀ z ∈ Z, z.1.length = 17 ∧ (∀ u ∈ z.1, u.oneCell' = true) ∧ rIt w B z.1 z.2) : ∀ u ∈ Z.flatMap Prod.fst, u.oneCell' = true := fun u hu => by
 obtain ⟨z, hz, hu⟩ := List.mem_flatMap.1 hu
 exact (h2 z hz).2.1 u hu
theorem app_its {W : World} {base B m c : Nat} {v : Value} {a : Addr} {Z Y : List (List Value × It)} (hl : Z.length ≤ bigI) (hm : m = Y.length) (hy : m ≤ bigI)
  (hZ : ∀ z ∈ Z, z.1.length = 17 ∧ (∀ u ∈ z.1, u.oneCell' = true) ∧ rIt W B z.1 z.2) (hY : ∀ z ∈ Y, z.1.length = 17 ∧ (∀ u ∈ z.1, u.oneCell' = true) ∧ rIt W B z.1 z.2)
  (ho : W.ownsRow base 49 17 v Z.length (Z.flatMap Prod.fst)) (hB : B ≤ base) (hb : base ≤ W.heap.size)
  (hc : ∀ j u, (Y.flatMap Prod.fst)[j]? = some u → W.cell? (a.add j) = some u) :
  ∃ v' w', (AppG #[36, 36] 36 #[v, .slice (some a) m c]).run Tryz.prog W = .ok v' w' ∧ ItS w' base B v' (Z.map Prod.snd ++ Y.map Prod.snd) ∧ Below base W w' := by
 subst hm
 obtain ⟨ii, hii, hzi0, hzi1, hzi2⟩ := info_parts item_info
 unfold bigI at hl hy
 obtain ⟨v', w', hrun, h2, h3, _, _⟩ := run_append_own_at (P := Tryz.prog) W base 36 36 49 ii _ 17 216 Tryz.underlying36 hii hzi0 hzi1 hzi2 rfl (by omega) v Z.length _ ho a Y.length c (Y.flatMap Prod.fst) (sum17 Y fun z hz => (hY z hz).1) hc (ItS.one hY) (by simp [maxLen]; omega) (by omega) hb
 have hbl : Below base W w' := (Below.refl _ _).grown h3 hb (fun g e => (ho.lt g e).1)
 refine ⟨v', w', hrun, ⟨Z ++ Y, by simp, fun z hz => ?_, by simpa using h2⟩, hbl⟩
 have hk : ∀ q : Addr, q.block < B → w'.cell? q = W.cell? q := fun q hq => hbl.cell (Nat.lt_of_lt_of_le hq hB)
 rcases List.mem_append.1 hz with hz | hz
 ·exact ⟨(hZ z hz).1, (hZ z hz).2.1, sta_it.keep (hZ z hz).2.2 hk⟩
 ·exact ⟨(hY z hz).1, (hY z hz).2.1, sta_it.keep (hY z hz).2.2 hk⟩
theorem add_cell {g o j : Nat} : (⟨g, o, none⟩ : Addr).add j = ⟨g, o + j, none⟩ := by unfold Addr.add; split <;> simp_all
/-- append of an item. -/
theorem append_it {W : World} {base B : Nat} {v : Value} {l : List It} (x : It) (cs : Array Value) (hd : ItS W base B v l) (hx : rIt W B cs.toList x) (h17 : cs.size = 17) (h1 : ∀ u ∈ cs.toList, u.oneCell' = true) (hB : B ≤ base) (hb : base ≤ W.heap.size) (hz : l.length ≤ bigI) :
  ∃ v' w', (AppG #[36, 36] 36 #[v, .slice (some ⟨W.heap.size, 0, none⟩) 1 1]).run Tryz.prog (W.alloc (.cells cs 49)) = .ok v' w' ∧ ItS w' base B v' (l ++ [x]) ∧ Below base W w' := by
 have hba : Below W.heap.size W (W.alloc (.cells cs 49)) := (Below.refl _ _).alloc (Nat.le_refl _) _
 have hd' := hd.below hba (Nat.le_refl _) (Nat.le_trans hB hb)
 have hx' := sta_it.keep hx fun q hq => hba.cell (Nat.lt_of_lt_of_le hq (Nat.le_trans hB hb))
 have hc0 : ∀ i, (W.alloc (.cells cs 49)).cell? ⟨W.heap.size, i, none⟩ = cs[i]? := fun _ => World.cell?_alloc_at _ _ _ _ rfl
 have hs : W.heap.size ≤ (W.alloc (.cells cs 49)).heap.size := hba.size
 obtain ⟨Z, h2, h3, h4⟩ := hd'
 subst h2
 rw [List.length_map] at h4 hz
 obtain ⟨v', w', hr, hI, hw⟩ := app_its (W := W.alloc (.cells cs 49)) (a := ⟨W.heap.size, 0, none⟩) (Y := [(cs.toList, x)]) (c := 1) (m := 1) hz rfl (by unfold bigI; omega) h3 (fun z hz => by
  rw [List.mem_singleton] at hz
  subst hz
  exact ⟨h17, h1, hx'⟩) h4 hB (by omega) (fun j u hu => by
  simp only [List.flatMap_cons, List.flatMap_nil, List.append_nil] at hu
  rw [add_cell, Nat.zero_add, hc0]
  simpa using hu)
 exact ⟨v', w', hr, hI, (hba.mono hb).trans hw⟩
/-- append of all items of another row. -/
theorem append_its {W : World} {base base' B : Nat} {v u : Value} {l m : List It} (hd : ItS W base B v l) (hs : ItS W base' B u m) (hB : B ≤ base) (hb : base ≤ W.heap.size) (hz : l.length ≤ bigI) (hm : m.length ≤ bigI) :
  ∃ v' w', (AppG #[36, 36] 36 #[v, u]).run Tryz.prog W = .ok v' w' ∧ ItS w' base B v' (l ++ m) ∧ Below base W w' := by
 obtain ⟨Z, h2, h3, h4⟩ := hd
 obtain ⟨Y, g2, g3, g4⟩ := hs
 subst h2 g2
 rw [List.length_map] at h4 hz hm g4
 rcases g4.2 with ⟨rfl, hz0⟩ | ⟨g, cap, cur, rfl, _, hg, _⟩
 ·have hy : Y = [] := List.eq_nil_of_length_eq_zero hz0
  subst hy
  obtain ⟨ii, hii, hzi0, hzi1, hzi2⟩ := info_parts item_info
  refine ⟨v, W, ?_, by rw [List.map_nil, List.append_nil]; exact ⟨Z, rfl, h3, by rw [List.length_map]; exact h4⟩, Below.refl _ _⟩
  unfold AppG
  rcases h4.2 with ⟨rfl, hzz⟩ | ⟨g, cap, cur, rfl, _, _, hnc, _⟩
  ·simp [Builtin.append_, run_underlying Tryz.underlying36, sizeOf, typeInfo, hii, Builtin.lenOf, Builtin.firstCells]
  ·simp [Builtin.append_, run_underlying Tryz.underlying36, sizeOf, typeInfo, hii, Builtin.lenOf, Builtin.firstCells, hnc, storeCells]
 ·exact app_its (a := ⟨g, 0, none⟩) hz rfl hm h3 g3 h4 hB hb fun j x hx => g4.cells (g := g) rfl j x hx
/-- Items in a row, as they lie. -/
theorem ItS.sl {w : World} {base B : Nat} {v : Value} {l : List It} (h : ItS w base B v l) (hB : B ≤ w.heap.size) (hl : l.length ≤ bigI) : ∃ A cap, v = .slice A l.length cap ∧ Sl 17 rIt w w.heap.size A l := by
 obtain ⟨Z, rfl, h3, h4⟩ := h
 rw [List.length_map] at h4 hl ⊢
 unfold bigI at hl
 rcases h4.2 with ⟨rfl, hz⟩ | ⟨g, cap, cur, rfl, hb, hg, _⟩
 ·have : Z = [] := List.eq_nil_of_length_eq_zero hz
  subst this
  exact ⟨none, 0, rfl, Sl.nil_⟩
 ·refine ⟨some ⟨g, 0, none⟩, cap, rfl, by rw [List.length_map]; simp [maxLen]; omega, fun i x hx => ?_⟩
  have hi : i < Z.length := by simpa using (List.getElem?_eq_some_iff.1 hx).1
  have hzi : Z[i]? = some Z[i] := List.getElem?_eq_getElem hi
  have hm := h3 _ (List.getElem_mem hi)
  have hxe : Z[i].2 = x := by simpa [hzi] using hx
  refine ⟨g, 0, Z[i].1, rfl, (h4.lt g rfl).2, hm.1, fun j u hu => ?_, hxe ▸ sta_it.more hm.2.2 hB⟩
  have hj : j < 17 := by rw [← hm.1]; exact (List.getElem?_eq_some_iff.1 hu).1
  have := h4.cells (g := g) rfl (i * 17 + j) u (flat17 Z (fun z hz => (h3 z hz).1) i j _ u hzi hu)
  rw [add_cell] at this
  rw [Nat.add_assoc]
  exact this
end Go.Proofs.YtbbdhknagofghaaGreat
/-! The document's layer 7: many, stmts. -/
namespace Go.Proofs.YtbbdhknagofghaaGreat
open Go.RowKit
attribute [local go_sem ↓] app_eq
theorem manyI_succ (kind : Int) (a k : Nat) : manyI kind a (k + 1) = manyI kind a k ++ [⟨kind, (a : Int), (k : Int), zSt⟩] := by
 unfold manyI; rw [List.range_succ, List.map_append]; rfl
/-- append of an item that is no statement. -/
theorem append_zit {W : World} {base B : Nat} {v : Value} {l : List It} (k a b : Int) (hd : ItS W base B v l) (hB : B ≤ base) (hb : base ≤ W.heap.size) (hz : l.length ≤ bigI) :
  ∃ v' w', (AppG #[36, 36] 36 #[v, .slice (some ⟨W.heap.size, 0, none⟩) 1 1]).run Tryz.prog (W.alloc (.cells #[.int .u8 k, .int .i64 a, .int .i64 b, .int .u8 0, .string ⟨#[]⟩, .string ⟨#[]⟩, .int .u8 0, .int .i64 0, .int .u64 0, .int .u64 0, .string ⟨#[]⟩, .string ⟨#[]⟩, .int .i64 0, .int .i64 0, .slice none 0 0, .slice none 0 0, .slice none 0 0] 49)) = .ok v' w' ∧ ItS w' base B v' (l ++ [⟨k, a, b, zSt⟩]) ∧ Below base W w' :=
 append_it ⟨k, a, b, zSt⟩ #[.int .u8 k, .int .i64 a, .int .i64 b, .int .u8 0, .string ⟨#[]⟩, .string ⟨#[]⟩, .int .u8 0, .int .i64 0, .int .u64 0, .int .u64 0, .string ⟨#[]⟩, .string ⟨#[]⟩, .int .i64 0, .int .i64 0, .slice none 0 0, .slice none 0 0, .slice none 0 0] hd ⟨zStC, rfl, rSt_zero _ _⟩ rfl (List.all_eq_true.1 rfl) hB hb hz
set_option maxRecDepth 100000 in
set_option maxHeartbeats 4000000 in
theorem many07_any (kind : Int) (a n B : Nat) (w : World) (hB : B ≤ w.heap.size) (hn : n ≤ bigI) :
  Calls Tryz.prog 24 #[.int .u8 kind, .int .i64 (a : Int), .int .i64 (n : Int)] w fun e w' => ∃ v, e = .returned v ∧ ItS w' w.heap.size B v (manyI kind a n) ∧ Below w.heap.size w w' := by
 have hn9 : n ≤ 100000000 := hn
 go_enter Tryz.func24, Tryz.ntmps24
 go_wp2
 go_loopw [7, 8] (fun v i wr => ∃ k : Nat, k ≤ n ∧ i = .int .i64 k ∧ Hid (ItS wr w.heap.size B v (manyI kind a k)) ∧ Hid (Below w.heap.size w wr)) (fun _ i _ => n - (intOf i).toNat)
 case atStart => exact ⟨0, Nat.zero_le _, rfl, hide (ItS.nil_ _ _ _), hide (Below.refl _ _)⟩
 case round =>
  obtain ⟨k, hk, rfl, hR, hbr⟩ := hrel
  by_cases hlt : k < n
  ·have hltz : (k : Int) < (n : Int) := by omega
   obtain ⟨v', w', hr, hI, hw⟩ := append_zit kind (a : Int) (k : Int) hR.out hB hbr.out.size (by rw [length_manyI]; exact Nat.le_trans hk hn)
   rw [← manyI_succ] at hI
   replace hI := hide hI
   have hbN := hide (hbr.out.trans hw)
   clear hw hR hbr
   go_wp2
   go_roundw
   case rel => exact ⟨k + 1, by omega, by go_num, hI, hbN⟩
   case measure => simp [intOf]; omega
  ·have hk' : k = n := by omega
   subst hk'
   go_wp2
   go_ret
   exact ⟨_, rfl, hR.out, hbr.out⟩
theorem itemsL_append (a : Int) (l m : List St) : itemsL a (l ++ m) = itemsL a l ++ itemsL a m := by rw [itemsL_flat, itemsL_flat, itemsL_flat, List.flatMap_append]
theorem itemsL_take {a : Int} {l : List St} {k : Nat} (hk : k < l.length) : itemsL a (l.take (k + 1)) = itemsL a (l.take k) ++ itemsS a l[k] := by
 rw [List.take_succ_eq_append_getElem hk, itemsL_append]
 simp [itemsL]
theorem itemsL_le {a : Int} {l : List St} (k : Nat) : (itemsL a (l.take k)).length ≤ (itemsL a l).length := by
 conv => rhs; rw [← List.take_append_drop k l, itemsL_append, List.length_append]
 omega
/-- What stmts makes of a list. -/
def Stm07 (l : List St) : Prop := ∀ (a : Int) (A : Option Addr) (cap : Nat) (w : World) (B : Nat), B ≤ w.heap.size → Sl 14 rSt w B A l → (itemsL a l).length ≤ bigI →
 Calls Tryz.prog 25 #[.int .i64 a, .slice A l.length cap] w fun e w' => ∃ v, e = .returned v ∧ ItS w' w.heap.size B v (itemsL a l) ∧ Below w.heap.size w w'
def Stm07In : St → Prop
 | .mk _ _ _ _ thn els => Stm07 thn ∧ Stm07 els
set_option maxRecDepth 100000 in
set_option maxHeartbeats 8000000 in
theorem stmts07_of (l : List St) (ih : ∀ x ∈ l, Stm07In x) : Stm07 l := by
 intro a A cap w B hB hS hbig
 have hl := hS.len
 replace ih := hide ih
 replace hS := hide hS
 go_enter Tryz.func25, Tryz.ntmps25
 go_wp2
 go_loopw [5, 6] (fun v i wr => ∃ k : Nat, k ≤ l.length ∧ i = .int .i64 k ∧ Hid (ItS wr w.heap.size B v (itemsL a (l.take k))) ∧ Hid (Below w.heap.size w wr)) (fun _ i _ => l.length - (intOf i).toNat)
 case atStart => exact ⟨0, Nat.zero_le _, rfl, hide (ItS.nil_ _ _ _), hide (Below.refl _ _)⟩
 case round =>
  obtain ⟨k, hk, rfl, hR, hbr⟩ := hrel
  by_cases hlt : k < l.length
  ·obtain ⟨b, o, ecs, hA, hb, hel, hcell, hr⟩ := hS.out.2 k _ (List.getElem?_eq_getElem hlt)
   subst hA
   have hltz : (k : Int) < (l.length : Int) := by omega
   have ht := itemsL_take (a := a) hlt
   have hin := ih.out _ (List.getElem_mem hlt)
   have hle := itemsL_le (a := a) (l := l) (k + 1)
   generalize l[k] = x at hr ht hin
   obtain ⟨kind, head, name, e, thn, els⟩ := x
   have hr0 := hr
   obtain ⟨es, A1, c1, A2, c2, rfl, h0, h1, h2, he, hT, hE⟩ := RS.inv hr
   have l1 := hT.len
   have l2 := hE.len
   simp only [itemsS] at ht
   rw [ht, List.length_append, List.length_cons, List.length_append] at hle
   have hbN0 : b < w.heap.size := by omega
   have hk0 : (itemsL a (l.take k)).length ≤ bigI := by unfold bigI at hbig ⊢; omega
   have hk1 : (itemsL a thn).length ≤ bigI := by unfold bigI at hbig ⊢; omega
   have hk2 : (itemsL a els).length ≤ bigI := by unfold bigI at hbig ⊢; omega
   have hk3 : (itemsL a (l.take k) ++ [(⟨10, a, 0, .mk kind head name e thn els⟩ : It)]).length ≤ bigI := by rw [List.length_append, List.length_singleton]; unfold bigI at hbig ⊢; omega
   have hk4 : ((itemsL a (l.take k) ++ [(⟨10, a, 0, .mk kind head name e thn els⟩ : It)]) ++ itemsL a thn).length ≤ bigI := by rw [List.length_append, List.length_append, List.length_singleton]; unfold bigI at hbig ⊢; omega
   have hes : es.length = 9 := by simpa [stC] using hel
   obtain ⟨op, lit, ehead, ename, hi, lo, args⟩ := e
   obtain ⟨Ae, ecap, rfl, -, -, -, -, -, -, hs⟩ := RE.inv he
   have l3 := hs.len
   obtain ⟨x0, x1, x2, x3, x4, x5, x6, x7, x8, x9, x10, x11, x12, x13⟩ := srow14 hcell
   have hc := bcell' hbr.out
   obtain ⟨v1, w1, hr1, hI1, hw1⟩ := append_it (W := wr) ⟨10, a, 0, .mk kind head name (.mk op lit ehead ename hi lo args) thn els⟩ #[.int .u8 10, .int .i64 a, .int .i64 0, .int .u8 kind, .string head, .string name, .int .u8 op, .int .i64 lit.1, .int .u64 lit.2.1, .int .u64 lit.2.2, .string ehead, .string ename, .int .i64 hi, .int .i64 lo, .slice Ae args.length ecap, .slice A1 thn.length c1, .slice A2 els.length c2] hR.out
    ⟨_, rfl, sta_st.keep hr0 fun q hq => (hbr.out.mono hB).cell hq⟩ rfl (List.all_eq_true.1 rfl) hB hbr.out.size hk0
   have hb1 := hbr.out.trans hw1
   have hT1 := hide (hin.1 a A1 c1 w1 B (Nat.le_trans hB hb1.size) (hT.below sta_st (hb1.mono hB)) hk1)
   have hin2 := hide hin.2
   replace hI1 := hide hI1
   replace hE := hide hE
   replace hb1 := hide hb1
   replace ht := hide ht
   have hc1 := bcell' hb1.out
   clear hcell hr hr0 he hs hT hel hes h0 h1 h2 hin hw1 hR hbr hle hk0
   generalize itemsL a (l.take k) = M at *
   go_wp2_with fail
   refine hT1.out.mono ?_
   rintro _ w2 ⟨v2, rfl, hI2, hw2⟩
   have hz1 := hb1.out.size
   have hb2 := hb1.out.trans (hw2.mono hz1)
   obtain ⟨v3, w3, hr3, hI3, hw3⟩ := append_its (hI1.out.below hw2 (Nat.le_refl _) (Nat.le_trans hB hz1)) hI2 hB hb2.size hk3 (by assumption)
   have hb3 := hb2.trans hw3
   have hE3 := hide (hin2.out a A2 c2 w3 B (Nat.le_trans hB hb3.size) (hE.out.below sta_st (hb3.mono hB)) hk2)
   have hc3 := bcell' hb3
   replace hI3 := hide hI3
   replace hb3 := hide hb3
   clear hc1 hI1 hI2 hw2 hw3 hb2 hb1 hT1 hz1
   go_wp2_with fail
   refine hE3.out.mono ?_
   rintro _ w4 ⟨v4, rfl, hI4, hw4⟩
   have hz3 := hb3.out.size
   have hb4 := hb3.out.trans (hw4.mono hz3)
   obtain ⟨v5, w5, hr5, hI5, hw5⟩ := append_its (hI3.out.below hw4 (Nat.le_refl _) (Nat.le_trans hB hz3)) hI4 hB hb4.size hk4 (by assumption)
   have hb5 := hide (hb4.trans hw5)
   have hI5' := hide (show ItS w5 w.heap.size B v5 (itemsL a (l.take (k + 1))) from by
    rw [ht.out]
    have := hI5
    simp only [List.append_assoc, List.singleton_append, List.cons_append] at this ⊢
    exact this)
   clear hc3 hI3 hI4 hI5 hw4 hw5 hb4 hb3 hE3 hz3 hk2 hk3 hk4
   go_wp2
   go_roundw
   case rel => exact ⟨k + 1, by omega, by go_num, hI5', hb5⟩
   case measure => simp [intOf]; omega
  ·have hR' := hide (show ItS wr w.heap.size B _ (itemsL a l) from by have := hR.out; rwa [List.take_of_length_le (by omega)] at this)
   go_wp2
   go_ret
   exact ⟨_, rfl, hR'.out, hbr.out⟩
theorem stmts07_in (s : St) : Stm07In s := by
 induction s using St.ind with
 | h kind head name e thn els ih1 ih2 => exact ⟨stmts07_of thn ih1, stmts07_of els ih2⟩
theorem stmts07_any (l : List St) : Stm07 l := stmts07_of l fun x _ => stmts07_in x
end Go.Proofs.YtbbdhknagofghaaGreat

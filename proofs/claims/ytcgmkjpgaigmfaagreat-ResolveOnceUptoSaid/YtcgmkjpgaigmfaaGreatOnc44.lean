import Derived.Test.YtcgmkjpgaigmfaaGreatOnc43
import Derived.Test.YtcgmkjpgaigmfaaGreatOnc05
set_option linter.all false
/-! Layer 7: the seven parts of all. -/
namespace Go.Proofs.YtcgmkjpgaigmfaaGreat
open Go.RowKit
def totL (len : Nat → Nat) : Nat → Nat
  | 0 => 0
  | i + 1 => totL len i + (1 + len i)
section
variable {α : Type} {kind : Int} {l : List α} {g : Nat → α → List It} {f : α → Nat}
theorem zip_take (i : Nat) (hi : i < l.length) : l.zipIdx.take (i + 1) = l.zipIdx.take i ++ [(l[i], i)] := by
  rw [List.take_succ_eq_append_getElem (by simpa using hi)]
  simp
theorem pre_len (hg : ∀ i a, (g i a).length = f a) : ∀ i, i ≤ l.length → ((l.zipIdx.take i).flatMap fun x => (⟨kind, (x.2 : Int), 0, zSt⟩ : It) :: g x.2 x.1).length = totL (fun i => (l[i]?).elim 0 f) i
  | 0, _ => by simp [totL]
  | i + 1, hi => by
    have ih := pre_len hg i (by omega)
    rw [zip_take i (by omega), List.flatMap_append, List.length_append, ih]
    simp [totL, List.getElem?_eq_getElem (show i < l.length by omega), hg]
    omega
theorem each_len (hg : ∀ i a, (g i a).length = f a) : (eachI kind l g).length = totL (fun i => (l[i]?).elim 0 f) l.length := by
  have := pre_len (l := l) (kind := kind) hg l.length (Nat.le_refl _)
  rw [List.take_of_length_le (by simp)] at this
  exact this
theorem each_at (hg : ∀ i a, (g i a).length = f a) (i : Nat) (hi : i < l.length) (m : Nat) (hm : m < 1 + f l[i]) :
    (eachI kind l g)[totL (fun i => (l[i]?).elim 0 f) i + m]? = ((⟨kind, (i : Int), 0, zSt⟩ : It) :: g i l[i])[m]? := by
  have h1 := pre_len (l := l) (kind := kind) hg i (by omega)
  have e : eachI kind l g = (l.zipIdx.take i).flatMap (fun x => (⟨kind, (x.2 : Int), 0, zSt⟩ : It) :: g x.2 x.1) ++ (((⟨kind, (i : Int), 0, zSt⟩ : It) :: g i l[i]) ++ (l.zipIdx.drop (i + 1)).flatMap fun x => (⟨kind, (x.2 : Int), 0, zSt⟩ : It) :: g x.2 x.1) := by
    unfold eachI
    have h2 := zip_take (l := l) i hi
    conv => lhs; rw [← List.take_append_drop (i + 1) l.zipIdx, h2]
    simp
  rw [e, ← h1, List.getElem?_append_right (Nat.le_add_right _ _), Nat.add_sub_cancel_left, List.getElem?_append_left (by simp [hg]; omega)]
end
theorem seg {A M C : List It} (m : Nat) (hm : m < M.length) : (A ++ (M ++ C))[A.length + m]? = M[m]? := by
  rw [List.getElem?_append_right (Nat.le_add_right _ _), Nat.add_sub_cancel_left, List.getElem?_append_left hm]
theorem many_get {kind : Int} {a n k : Nat} (hk : k < n) : (manyI kind a n)[k]? = some ⟨kind, (a : Int), (k : Int), zSt⟩ := by
  simp [manyI, hk]
/-- The law for one part: a list whose each-items stand at j.. of xs. -/
theorem part_each {α : Type} {kind : Int} {L : List α} {gi : Nat → α → List It} {f : α → Nat} (hg : ∀ i a, (gi i a).length = f a) {A C xs : List It} (hxs : xs = A ++ (eachI kind L gi ++ C))
    {l B : Nat} {g : Nat → Bool} {J S : Nat → World → Prop} (hY : Yl l B xs g J S) (hn : L.length ≤ 9223372036854775807) (fid : Nat) (lb : Array Value)
    (eg : ∀ args w, (callFunc fid args).run Tryz.prog w = .ok (.enter fid args) w) (W : World)
    (hin : ∀ (i : Nat) (a : α) (j : Nat) (W1 : World), L[i]? = some a → (∀ k, k < f a → xs[j + k]? = (gi i a)[k]?) → J j W1 → Kp exI W W1 → Calls Tryz.prog fid (#[.int .i64 (i : Int)] ++ lb) W1 (Told xs.length g J S W1 j (f a))) (hJ : J A.length W) :
    Calls Tryz.prog 49 #[.int .u8 kind, .int .i64 (L.length : Int), .func (.yield l) #[] #[], .func (.func fid) #[] lb] W (Told xs.length g J S W A.length (eachI kind L gi).length) := by
  rw [each_len hg]
  have htot : ∀ i k, totL (fun i => (L[i]?).elim 0 f) i ≤ totL (fun i => (L[i]?).elim 0 f) (i + k) := fun i k => by
    induction k with
    | zero => exact Nat.le_refl _
    | succ k ih => rw [← Nat.add_assoc, totL]; omega
  have hle : ∀ i (hi : i < L.length), totL (fun i => (L[i]?).elim 0 f) i + (1 + f L[i]) ≤ (eachI kind L gi).length := fun i hi => by
    have h1 := htot (i + 1) (L.length - (i + 1))
    rw [show i + 1 + (L.length - (i + 1)) = L.length by omega] at h1
    rw [each_len hg]
    refine Nat.le_trans (Nat.le_of_eq ?_) h1
    rw [totL, List.getElem?_eq_getElem hi]; rfl
  have hat : ∀ i (hi : i < L.length) (m : Nat), m < 1 + f L[i] → xs[A.length + (totL (fun i => (L[i]?).elim 0 f) i + m)]? = ((⟨kind, (i : Int), 0, zSt⟩ : It) :: gi i L[i])[m]? := fun i hi m hm => by
    rw [hxs, seg _ (by have := hle i hi; omega), each_at hg i hi m hm]
  refine each_tells hY kind L.length hn A.length _ (fun i => (L[i]?).elim 0 f) rfl (fun i => rfl) fid lb eg W (fun i hi => ?_) (fun i hi W1 hJ1 hk1 => ?_) hJ
  · have := hat i hi 0 (by omega)
    simpa using this
  · have hf : (L[i]?).elim 0 f = f L[i] := by rw [List.getElem?_eq_getElem hi]; rfl
    show Calls _ _ _ _ (Told _ _ _ _ _ _ ((L[i]?).elim 0 f))
    rw [hf]
    refine hin i L[i] _ W1 (List.getElem?_eq_getElem hi) (fun k hk => ?_) hJ1 hk1
    have := hat i hi (k + 1) (by omega)
    rw [List.getElem?_cons_succ] at this
    rw [← this]; congr 1; omega
end Go.Proofs.YtcgmkjpgaigmfaaGreat
/-! Layer 7: the parts of all, each as it is told. -/
namespace Go.Proofs.YtcgmkjpgaigmfaaGreat
open Go.RowKit
theorem part_heads {l B B0 : Nat} {w0 : World} {g : Nat → Bool} {J S : Nat → World → Prop} (A1 A2 A3 A4 A5 A6 A7 : Option Addr) (p : Pg) (c1 c2 c3 c4 c5 c6 c7 : Nat) (hY : Yl l B (itemsP p) g J S) (hown : OwnFrom B0 J) (hJK : ∀ k W, J k W → Below B w0 W) (hBB : B ≤ B0) (hP : PgS w0 B A1 A2 A3 A4 A5 A6 A7 p) (bp bo : Nat)
    (W : World) (hB0 : B0 ≤ W.heap.size) (hh : Held A1 A2 A3 A4 A5 A6 A7 p c1 c2 c3 c4 c5 c6 c7 l bp bo W) (hJ : J ([] : List It).length W) :
    Calls Tryz.prog 49 #[.int .u8 1, .int .i64 (p.headers.length : Int), .func (.yield l) #[] #[], .func (.func 50) #[] #[.pointer (some ⟨bp, 0, none⟩), .pointer (some ⟨bo, 0, none⟩)]] W (Told (itemsP p).length g J S W ([] : List It).length (headsI p).length) := by
  have hxs : itemsP p = ([] : List It) ++ (headsI p ++ (metasI p ++ (statesI p ++ (actsI p ++ (tabsI p ++ (itemsL (-1) p.control ++ (emitsI p))))))) := by simp [itemsP]
  refine part_each (f := fun h : Hd => h.fields.length) (by intro i a; exact length_manyI) hxs hY hP.headers.len 50 #[.pointer (some ⟨bp, 0, none⟩), .pointer (some ⟨bo, 0, none⟩)] enters_all2 W ?_ hJ
  intro i a j W1 ha hx hJ1 hk1
  exact heads_tells hY hown hJK A1 A2 A3 A4 A5 A6 A7 p c1 c2 c3 c4 c5 c6 c7 hP bp bo i j a ha W1 (by have := hk1.size; omega) (hh.kp hk1) (fun k hk => by rw [hx k hk]; exact many_get hk) hJ1
theorem part_metas {l B B0 : Nat} {w0 : World} {g : Nat → Bool} {J S : Nat → World → Prop} (A1 A2 A3 A4 A5 A6 A7 : Option Addr) (p : Pg) (c1 c2 c3 c4 c5 c6 c7 : Nat) (hY : Yl l B (itemsP p) g J S) (hown : OwnFrom B0 J) (hJK : ∀ k W, J k W → Below B w0 W) (hBB : B ≤ B0) (hP : PgS w0 B A1 A2 A3 A4 A5 A6 A7 p) (bp bo : Nat)
    (W : World) (hB0 : B0 ≤ W.heap.size) (hh : Held A1 A2 A3 A4 A5 A6 A7 p c1 c2 c3 c4 c5 c6 c7 l bp bo W) (hJ : J (headsI p).length W) :
    Calls Tryz.prog 49 #[.int .u8 3, .int .i64 (p.metas.length : Int), .func (.yield l) #[] #[], .func (.func 48) #[] #[]] W (Told (itemsP p).length g J S W (headsI p).length (metasI p).length) := by
  have hxs : itemsP p = (headsI p) ++ (metasI p ++ (statesI p ++ (actsI p ++ (tabsI p ++ (itemsL (-1) p.control ++ (emitsI p)))))) := by simp [itemsP]
  refine part_each (f := fun _ : Fd => 0) (by intro i a; rfl) hxs hY hP.metas.len 48 #[] enters_none W ?_ hJ
  intro i a j W1 ha hx hJ1 hk1
  exact none_tells (i : Int) W1 hJ1
theorem part_states {l B B0 : Nat} {w0 : World} {g : Nat → Bool} {J S : Nat → World → Prop} (A1 A2 A3 A4 A5 A6 A7 : Option Addr) (p : Pg) (c1 c2 c3 c4 c5 c6 c7 : Nat) (hY : Yl l B (itemsP p) g J S) (hown : OwnFrom B0 J) (hJK : ∀ k W, J k W → Below B w0 W) (hBB : B ≤ B0) (hP : PgS w0 B A1 A2 A3 A4 A5 A6 A7 p) (bp bo : Nat)
    (W : World) (hB0 : B0 ≤ W.heap.size) (hh : Held A1 A2 A3 A4 A5 A6 A7 p c1 c2 c3 c4 c5 c6 c7 l bp bo W) (hJ : J (headsI p ++ metasI p).length W) :
    Calls Tryz.prog 49 #[.int .u8 4, .int .i64 (p.states.length : Int), .func (.yield l) #[] #[], .func (.func 52) #[] #[.pointer (some ⟨bp, 0, none⟩), .pointer (some ⟨bo, 0, none⟩)]] W (Told (itemsP p).length g J S W (headsI p ++ metasI p).length (statesI p).length) := by
  have hxs : itemsP p = (headsI p ++ metasI p) ++ (statesI p ++ (actsI p ++ (tabsI p ++ (itemsL (-1) p.control ++ (emitsI p))))) := by simp [itemsP]
  refine part_each (f := fun s : Sa => s.takes.length + (1 + s.cases_.length)) (by intro i a; simp [length_manyI]; omega) hxs hY hP.states.len 52 #[.pointer (some ⟨bp, 0, none⟩), .pointer (some ⟨bo, 0, none⟩)] enters_all3 W ?_ hJ
  intro i a j W1 ha hx hJ1 hk1
  have hx1 : ∀ k : Nat, k < a.takes.length → (itemsP p)[j + k]? = some ⟨5, (i : Int), (k : Int), zSt⟩ := fun k hk => by
    rw [hx k (by omega), List.getElem?_append_left (by rw [length_manyI]; exact hk)]; exact many_get hk
  have hx2 : (itemsP p)[j + a.takes.length]? = some ⟨6, (i : Int), 0, zSt⟩ := by
    rw [hx _ (by omega), List.getElem?_append_right (by rw [length_manyI]; omega), length_manyI, Nat.sub_self]; rfl
  have hx3 : ∀ k : Nat, k < a.cases_.length → (itemsP p)[j + a.takes.length + 1 + k]? = some ⟨7, (i : Int), (k : Int), zSt⟩ := fun k hk => by
    rw [show j + a.takes.length + 1 + k = j + (a.takes.length + (k + 1)) by omega, hx _ (by omega), List.getElem?_append_right (by rw [length_manyI]; omega), length_manyI, Nat.add_sub_cancel_left, List.getElem?_cons_succ]; exact many_get hk
  exact stas_tells hY hown hJK A1 A2 A3 A4 A5 A6 A7 p c1 c2 c3 c4 c5 c6 c7 hP bp bo i j a ha W1 (by have := hk1.size; omega) (hh.kp hk1) hx1 hx2 hx3 hJ1
theorem part_acts {l B B0 : Nat} {w0 : World} {g : Nat → Bool} {J S : Nat → World → Prop} (A1 A2 A3 A4 A5 A6 A7 : Option Addr) (p : Pg) (c1 c2 c3 c4 c5 c6 c7 : Nat) (hY : Yl l B (itemsP p) g J S) (hown : OwnFrom B0 J) (hJK : ∀ k W, J k W → Below B w0 W) (hBB : B ≤ B0) (hP : PgS w0 B A1 A2 A3 A4 A5 A6 A7 p) (bp bo : Nat)
    (W : World) (hB0 : B0 ≤ W.heap.size) (hh : Held A1 A2 A3 A4 A5 A6 A7 p c1 c2 c3 c4 c5 c6 c7 l bp bo W) (hJ : J (headsI p ++ metasI p ++ statesI p).length W) :
    Calls Tryz.prog 49 #[.int .u8 8, .int .i64 (p.actions.length : Int), .func (.yield l) #[] #[], .func (.func 53) #[] #[.pointer (some ⟨bp, 0, none⟩), .pointer (some ⟨bo, 0, none⟩)]] W (Told (itemsP p).length g J S W (headsI p ++ metasI p ++ statesI p).length (actsI p).length) := by
  have hxs : itemsP p = (headsI p ++ metasI p ++ statesI p) ++ (actsI p ++ (tabsI p ++ (itemsL (-1) p.control ++ (emitsI p)))) := by simp [itemsP]
  refine part_each (f := fun s : Ac => s.params.length + countL s.body) (by intro i a; simp [length_manyI, count_itemsL]) hxs hY hP.actions.len 53 #[.pointer (some ⟨bp, 0, none⟩), .pointer (some ⟨bo, 0, none⟩)] enters_all4 W ?_ hJ
  intro i a j W1 ha hx hJ1 hk1
  have hx1 : ∀ k : Nat, k < a.params.length → (itemsP p)[j + k]? = some ⟨9, (i : Int), (k : Int), zSt⟩ := fun k hk => by
    rw [hx k (by omega), List.getElem?_append_left (by rw [length_manyI]; exact hk)]; exact many_get hk
  have hx2 : ∀ (k : Nat) (x : It), (itemsL (i : Int) a.body)[k]? = some x → (itemsP p)[j + a.params.length + k]? = some x := fun k x hx2 => by
    have hk := (List.getElem?_eq_some_iff.1 hx2).1
    rw [count_itemsL] at hk
    rw [show j + a.params.length + k = j + (a.params.length + k) by omega, hx _ (by omega), List.getElem?_append_right (by rw [length_manyI]; omega), length_manyI, Nat.add_sub_cancel_left]; exact hx2
  rw [← count_itemsL (i : Int) a.body]
  exact acts_tells hY hown hJK hBB A1 A2 A3 A4 A5 A6 A7 p c1 c2 c3 c4 c5 c6 c7 hP bp bo i j a ha W1 (by have := hk1.size; omega) (hh.kp hk1) hx1 hx2 hJ1
theorem part_tabs {l B B0 : Nat} {w0 : World} {g : Nat → Bool} {J S : Nat → World → Prop} (A1 A2 A3 A4 A5 A6 A7 : Option Addr) (p : Pg) (c1 c2 c3 c4 c5 c6 c7 : Nat) (hY : Yl l B (itemsP p) g J S) (hown : OwnFrom B0 J) (hJK : ∀ k W, J k W → Below B w0 W) (hBB : B ≤ B0) (hP : PgS w0 B A1 A2 A3 A4 A5 A6 A7 p) (bp bo : Nat)
    (W : World) (hB0 : B0 ≤ W.heap.size) (hh : Held A1 A2 A3 A4 A5 A6 A7 p c1 c2 c3 c4 c5 c6 c7 l bp bo W) (hJ : J (headsI p ++ metasI p ++ statesI p ++ actsI p).length W) :
    Calls Tryz.prog 49 #[.int .u8 11, .int .i64 (p.tables.length : Int), .func (.yield l) #[] #[], .func (.func 55) #[] #[.pointer (some ⟨bp, 0, none⟩), .pointer (some ⟨bo, 0, none⟩)]] W (Told (itemsP p).length g J S W (headsI p ++ metasI p ++ statesI p ++ actsI p).length (tabsI p).length) := by
  have hxs : itemsP p = (headsI p ++ metasI p ++ statesI p ++ actsI p) ++ (tabsI p ++ (itemsL (-1) p.control ++ (emitsI p))) := by simp [itemsP]
  refine part_each (f := fun s : Ta => s.keys.length + (s.actions.length + 1)) (by intro i a; simp [length_manyI]) hxs hY hP.tables.len 55 #[.pointer (some ⟨bp, 0, none⟩), .pointer (some ⟨bo, 0, none⟩)] enters_all5 W ?_ hJ
  intro i a j W1 ha hx hJ1 hk1
  have hx1 : ∀ k : Nat, k < a.keys.length → (itemsP p)[j + k]? = some ⟨12, (i : Int), (k : Int), zSt⟩ := fun k hk => by
    rw [hx k (by omega), List.getElem?_append_left (by rw [length_manyI]; exact hk)]; exact many_get hk
  have hx3 : ∀ k : Nat, k < a.actions.length → (itemsP p)[j + a.keys.length + k]? = some ⟨13, (i : Int), (k : Int), zSt⟩ := fun k hk => by
    rw [show j + a.keys.length + k = j + (a.keys.length + k) by omega, hx _ (by omega), List.getElem?_append_right (by rw [length_manyI]; omega), length_manyI, Nat.add_sub_cancel_left, List.getElem?_append_left (by rw [length_manyI]; exact hk)]; exact many_get hk
  have hx2 : (itemsP p)[j + a.keys.length + a.actions.length]? = some ⟨14, (i : Int), 0, zSt⟩ := by
    rw [show j + a.keys.length + a.actions.length = j + (a.keys.length + a.actions.length) by omega, hx _ (by omega), List.getElem?_append_right (by rw [length_manyI]; omega), length_manyI, Nat.add_sub_cancel_left, List.getElem?_append_right (by rw [length_manyI]; omega), length_manyI, Nat.sub_self]; rfl
  exact tabs_tells hY hown hJK A1 A2 A3 A4 A5 A6 A7 p c1 c2 c3 c4 c5 c6 c7 hP bp bo i j a ha W1 (by have := hk1.size; omega) (hh.kp hk1) hx1 hx3 hx2 hJ1
theorem part_ctrl {l B B0 : Nat} {w0 : World} {g : Nat → Bool} {J S : Nat → World → Prop} (A1 A2 A3 A4 A5 A6 A7 : Option Addr) (p : Pg) (c1 c2 c3 c4 c5 c6 c7 : Nat) (hY : Yl l B (itemsP p) g J S) (hown : OwnFrom B0 J) (hJK : ∀ k W, J k W → Below B w0 W) (hBB : B ≤ B0) (hP : PgS w0 B A1 A2 A3 A4 A5 A6 A7 p) (bp bo : Nat)
    (W : World) (hB0 : B0 ≤ W.heap.size) (hh : Held A1 A2 A3 A4 A5 A6 A7 p c1 c2 c3 c4 c5 c6 c7 l bp bo W) (A : Option Addr) (hS : Sl 14 rSt w0 B A p.control) (cap : Nat) (hJ : J (headsI p ++ metasI p ++ statesI p ++ actsI p ++ tabsI p).length W) :
    Calls Tryz.prog 54 #[.int .i64 (-1), .slice A p.control.length cap, .func (.yield l) #[] #[]] W (Told (itemsP p).length g J S W (headsI p ++ metasI p ++ statesI p ++ actsI p ++ tabsI p).length (itemsL (-1) p.control).length) := by
  have hxs : itemsP p = (headsI p ++ metasI p ++ statesI p ++ actsI p ++ tabsI p) ++ (itemsL (-1) p.control ++ (emitsI p)) := by simp [itemsP]
  exact stmts_tells hY hown hJK hBB p.control (-1) A cap W _ hS hB0 (fun k x hx => by rw [hxs, seg _ (List.getElem?_eq_some_iff.1 hx).1]; exact hx) hJ
theorem part_emits {l B B0 : Nat} {w0 : World} {g : Nat → Bool} {J S : Nat → World → Prop} (A1 A2 A3 A4 A5 A6 A7 : Option Addr) (p : Pg) (c1 c2 c3 c4 c5 c6 c7 : Nat) (hY : Yl l B (itemsP p) g J S) (hown : OwnFrom B0 J) (hJK : ∀ k W, J k W → Below B w0 W) (hBB : B ≤ B0) (hP : PgS w0 B A1 A2 A3 A4 A5 A6 A7 p) (bp bo : Nat)
    (W : World) (hB0 : B0 ≤ W.heap.size) (hh : Held A1 A2 A3 A4 A5 A6 A7 p c1 c2 c3 c4 c5 c6 c7 l bp bo W) (hJ : J (headsI p ++ metasI p ++ statesI p ++ actsI p ++ tabsI p ++ itemsL (-1) p.control).length W) :
    Calls Tryz.prog 49 #[.int .u8 15, .int .i64 (p.emit.length : Int), .func (.yield l) #[] #[], .func (.func 48) #[] #[]] W (Told (itemsP p).length g J S W (headsI p ++ metasI p ++ statesI p ++ actsI p ++ tabsI p ++ itemsL (-1) p.control).length (emitsI p).length) := by
  have hxs : itemsP p = (headsI p ++ metasI p ++ statesI p ++ actsI p ++ tabsI p ++ itemsL (-1) p.control) ++ (emitsI p ++ []) := by simp [itemsP]
  refine part_each (f := fun _ : ByteArray => 0) (by intro i a; rfl) hxs hY hP.emit.len 48 #[] enters_none W ?_ hJ
  intro i a j W1 ha hx hJ1 hk1
  exact none_tells (i : Int) W1 hJ1
end Go.Proofs.YtcgmkjpgaigmfaaGreat

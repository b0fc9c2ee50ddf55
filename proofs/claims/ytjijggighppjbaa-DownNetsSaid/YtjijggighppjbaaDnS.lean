import Derived.Test.YtjijggighppjbaaDnR
namespace Go.Proofs.Ytjijggighppjbaa
open Go.RowKit
theorem getD_eq {α : Type} {xs : List α} {d : α} {j : Nat} (hj : j < xs.length) : xs.getD j d = xs[j] := by simp [List.getD_eq_getElem?_getD, hj]
theorem Sl.zero {α : Type} {R : CR α} {k : Nat} {w : World} {B : Nat} {A : Option Addr} {xs : List α} (h : Sl k R w B A xs) (hA : A = none) : xs = [] := by
  cases xs with
  | nil => rfl
  | cons x xs =>
    obtain ⟨b, o, _, he, _⟩ := h.2 0 x rfl
    rw [hA] at he; cases he
theorem cloneI_any (A : Option Addr) (cap : Nat) (xs : List Int) (w : World) (h : Sl 1 rInt w w.heap.size A xs) (hz : xs.length ≤ 1000) :
    Calls Try.prog 20 #[.slice A xs.length cap] w fun e w' => ∃ v, e = .returned v ∧ w'.ownsRow w.heap.size 3 1 v xs.length (xs.map (Value.int .i64)) ∧ Below w.heap.size w w' := by
  rcases A with _ | ⟨b, o, sp⟩
  · have := h.zero rfl
    subst this
    exact (Try.slices_Clone_int_nil 0 cap w).mono fun e w' ⟨he, hw⟩ => by subst hw; exact ⟨_, he, World.ownsRow_nil _ _ _ _, Below.refl _ _⟩
  · by_cases h0 : xs.length = 0
    · have := List.eq_nil_of_length_eq_zero h0
      subst this
      exact (Try.slices_Clone_int_zero ⟨b, o, sp⟩ cap w).mono fun e w' ⟨v, he, ho, _, hb⟩ => ⟨v, he, ho, hb⟩
    · obtain ⟨b', o', e1, _⟩ := h.int (i := 0) (by omega)
      injection e1 with e1
      injection e1 with e1 e2 e3
      subst e1 e2 e3
      refine (Try.slices_Clone_int b o xs.length cap xs w (Nat.le_refl _) (by omega) (fun j hj => ?_)).mono fun e w' ⟨v, he, ho, _, hb⟩ => ⟨v, he, by rwa [List.take_length] at ho, hb⟩
      obtain ⟨b', o', e1, _, hc⟩ := h.int hj
      injection e1 with e1
      injection e1 with e1 e2
      subst e1 e2
      rw [getD_eq hj]; exact hc
theorem cloneS_any (A : Option Addr) (cap : Nat) (xs : List ByteArray) (w : World) (h : Sl 1 rStr w w.heap.size A xs) (hz : xs.length ≤ 1000) :
    Calls Try.prog 15 #[.slice A xs.length cap] w fun e w' => ∃ v, e = .returned v ∧ w'.ownsRow w.heap.size 9 1 v xs.length (xs.map Value.string) ∧ Below w.heap.size w w' := by
  rcases A with _ | ⟨b, o, sp⟩
  · have := h.zero rfl
    subst this
    exact (Try.slices_Clone_string_nil 0 cap w).mono fun e w' ⟨he, hw⟩ => by subst hw; exact ⟨_, he, World.ownsRow_nil _ _ _ _, Below.refl _ _⟩
  · by_cases h0 : xs.length = 0
    · have := List.eq_nil_of_length_eq_zero h0
      subst this
      exact (Try.slices_Clone_string_zero ⟨b, o, sp⟩ cap w).mono fun e w' ⟨v, he, ho, _, hb⟩ => ⟨v, he, ho, hb⟩
    · obtain ⟨b', o', e1, _⟩ := h.str (i := 0) (by omega)
      injection e1 with e1
      injection e1 with e1 e2 e3
      subst e1 e2 e3
      refine (Try.slices_Clone_string b o xs.length cap xs w (Nat.le_refl _) (by omega) (fun j hj => ?_)).mono fun e w' ⟨v, he, ho, _, hb⟩ => ⟨v, he, by rwa [List.take_length] at ho, hb⟩
      obtain ⟨b', o', e1, _, hc, _⟩ := h.str hj
      injection e1 with e1
      injection e1 with e1 e2
      subst e1 e2
      rw [getD_eq hj]; exact hc
theorem Bk.setCells {g : Nat} {t : TypeId} : ∀ (vs : List Value) (o : Nat) (w : World) (cs : Array Value), Bk w g t cs → ∃ cs', Bk (w.setCells g o vs) g t cs' ∧ cs'.size = cs.size ∧ ∀ q, q < o → cs'[q]? = cs[q]?
  | [], _, _, cs, h => ⟨cs, h, rfl, fun _ _ => rfl⟩
  | v :: vs, o, w, cs, h => by
    obtain ⟨cs', h1, h2, h3⟩ := Bk.setCells vs (o + 1) _ _ (h.set_ o v)
    refine ⟨cs', h1, by rw [h2]; simp, fun q hq => ?_⟩
    rw [h3 q (by omega), Array.getElem?_setIfInBounds_ne (by omega)]
theorem below_setCs {B g : Nat} (hg : B ≤ g) : ∀ (vs : List Value) (o : Nat) (w0 w : World), Below B w0 w → Below B w0 (w.setCells g o vs)
  | [], _, _, _, h => h
  | _ :: vs, o, w0, w, h => below_setCs hg vs (o + 1) w0 _ (h.setCell hg _)
/-- DeleteFunc's state: the first ones are those kept of the first j; from j on the row is as it was. -/
def DelI (p : Int → Bool) (xs : List Int) (j : Nat) (i : Nat) (cs : Array Value) : Prop :=
  i = ((xs.take j).filter fun x => !p x).length ∧ i < j ∧ (∀ (q : Nat) (u : Int), ((xs.take j).filter fun x => !p x)[q]? = some u → cs[q]? = some (Value.int .i64 u)) ∧ ∀ (q : Nat) (hq : q < xs.length), j ≤ q → cs[q]? = some (Value.int .i64 xs[q])
theorem DelI.skip {p : Int → Bool} {xs : List Int} {j i : Nat} {cs : Array Value} (h : DelI p xs j i cs) (hj : j < xs.length) (hp : p xs[j] = true) : DelI p xs (j + 1) i cs := by
  obtain ⟨h1, h2, h3, h4⟩ := h
  have e : (xs.take (j + 1)).filter (fun x => !p x) = (xs.take j).filter fun x => !p x := by
    rw [List.take_succ_eq_append_getElem hj, List.filter_append]; simp [hp]
  exact ⟨by rw [e]; exact h1, by omega, by rw [e]; exact h3, fun q hq hjq => h4 q hq (by omega)⟩
theorem DelI.keep {p : Int → Bool} {xs : List Int} {j i : Nat} {cs : Array Value} (h : DelI p xs j i cs) (hj : j < xs.length) (hs : xs.length ≤ cs.size) (hp : p xs[j] = false) : DelI p xs (j + 1) (i + 1) (cs.setIfInBounds i (.int .i64 xs[j])) := by
  obtain ⟨h1, h2, h3, h4⟩ := h
  have e : (xs.take (j + 1)).filter (fun x => !p x) = ((xs.take j).filter fun x => !p x) ++ [xs[j]] := by
    rw [List.take_succ_eq_append_getElem hj, List.filter_append]; simp [hp]
  refine ⟨by rw [e, List.length_append, ← h1]; rfl, by omega, fun q u hq => ?_, fun q hq hjq => ?_⟩
  · rw [e] at hq
    rw [Array.getElem?_setIfInBounds]
    by_cases hqi : i = q
    · subst hqi
      rw [List.getElem?_append_right (by omega), ← h1] at hq
      simp at hq
      rw [if_pos rfl, if_pos (by omega), hq]
    · rw [if_neg hqi]
      have hl : q < (List.filter (fun x => !p x) (List.take j xs) ++ [xs[j]]).length := (List.getElem?_eq_some_iff.1 hq).1
      rw [List.length_append, ← h1] at hl
      simp at hl
      rw [List.getElem?_append_left (by omega)] at hq
      exact h3 q u hq
  · rw [Array.getElem?_setIfInBounds_ne (by omega)]
    exact h4 q hq (by omega)
theorem idxP_cases (p : Int → Bool) (xs : List Int) : (idxP p xs = -1 ∧ xs.filter (fun x => !p x) = xs) ∨ ∃ i, i < xs.length ∧ idxP p xs = (i : Int) ∧ (xs.take (i + 1)).filter (fun x => !p x) = xs.take i := by
  unfold idxP
  cases h : xs.findIdx? p with
  | none =>
    rw [List.findIdx?_eq_none_iff] at h
    exact .inl ⟨rfl, List.filter_eq_self.2 fun x hx => by simp [h x hx]⟩
  | some i =>
    rw [List.findIdx?_eq_some_iff_getElem] at h
    obtain ⟨hi, hp, hn⟩ := h
    refine .inr ⟨i, hi, rfl, ?_⟩
    rw [List.take_succ_eq_append_getElem hi, List.filter_append]
    have : (xs.take i).filter (fun x => !p x) = xs.take i := List.filter_eq_self.2 fun x hx => by
      obtain ⟨j, hj, rfl⟩ := List.mem_take_iff_getElem.1 hx
      simpa using hn j (by omega)
    rw [this]; simp [hp]
theorem own_of_cells {w : World} {base g : Nat} {e : TypeId} {n cap : Nat} {cs : Array Value} {xs : List Value} (hg : Bk w g e cs) (hb : base ≤ g) (hs : cs.size = cap) (hn : n ≤ cap) (hm : cap ≤ maxLen) (hl : xs.length = n) (hx : ∀ (q : Nat) (u : Value), xs[q]? = some u → cs[q]? = some u) :
    w.ownsRow base e 1 (.slice (some ⟨g, 0, none⟩) n cap) n xs := by
  refine ⟨by omega, .inr ⟨g, cap, cs, rfl, hb, hg, hn, hm, by omega, ?_⟩⟩
  apply List.ext_getElem?
  intro q
  by_cases hq : q < n
  · have hu : xs[q]? = some (xs[q]'(by omega)) := List.getElem?_eq_getElem (by omega)
    rw [hu, List.getElem?_take_of_lt (by omega)]
    have := hx q _ hu
    simpa using this
  · rw [List.getElem?_eq_none (by rw [List.length_take]; omega), List.getElem?_eq_none (by omega)]
theorem zeroI (w : World) : (zeroValue 3).run Try.prog w = .ok (.int .i64 0) w := by go_simp
set_option maxHeartbeats 2000000 in
theorem deleteFunc_any (fid : Nat) (lb : Array Value) (eg : ∀ args w, (callFunc fid args).run Try.prog w = .ok (.enter fid args) w) (p : Int → Bool) (base : Nat) (v : Value) (xs : List Int) (w : World) (hown : w.ownsRow base 3 1 v xs.length (xs.map (Value.int .i64))) (hbase : base ≤ w.heap.size) (hl : xs.length ≤ 1000) (hf : FnB base fid lb p xs w) :
    Calls Try.prog 19 #[v, .func (.func fid) #[] lb] w fun e w' => ∃ v', e = .returned v' ∧ w'.ownsRow base 3 1 v' (xs.filter fun x => !p x).length ((xs.filter fun x => !p x).map (Value.int .i64)) ∧ Below base w w' := by
  obtain ⟨A, cap, rfl, hS⟩ := own_sl (w := w) (R := rInt) (k := 1) (f := fun x => [Value.int .i64 x]) (xs := xs) (fun _ => rfl) (fun _ _ => rfl) (by rw [← List.map_eq_flatMap]; exact hown)
  have hf0 : FnB w.heap.size fid lb p xs w := fun x W hx hb => hf x W hx (hb.mono hbase)
  have hI := hide (indexFunc_any fid lb eg p A cap xs w hS hf0)
  clear hf0 hS
  replace hf := hide hf
  rcases idxP_cases p xs with ⟨e1, e2⟩ | ⟨i0, hi0, e1, e2⟩
  · have ht : ((-1 : Int) == -1) = true := rfl
    rw [e1] at hI
    replace e2 := hide e2
    replace hown := hide hown
    clear e1
    go_enter Try.func19, Try.ntmps19
    go_wp2_with (go_at_call 35; refine hI.out.mono ?_; rintro e w' ⟨rfl, hb⟩)
    go_ret
    exact ⟨_, rfl, by rw [e2.out]; exact own_below hown.out hb (Nat.le_refl _), hb.mono hbase⟩
  · have ht : ((i0 : Int) == -1) = false := beq_eq_false_iff_ne.2 (by omega)
    rw [e1] at hI
    replace e2 := hide e2
    clear e1
    rcases hown.2 with ⟨_, hz⟩ | ⟨g, cap', cs, hv, hbg, hB, hnc, hcm, hcs, hx⟩
    · omega
    injection hv with hv1 hv2 hv3
    subst hv1 hv3
    have hD : DelI p xs (i0 + 1) i0 cs := by
      have key : ∀ q (hq : q < xs.length), cs[q]? = some (.int .i64 xs[q]) := fun q hq => by
        have := congrArg (fun l => l[q]?) hx
        simp only [Nat.mul_one] at this
        rw [List.getElem?_take_of_lt hq, List.getElem?_map, List.getElem?_eq_getElem hq] at this
        simpa using this
      refine ⟨by rw [e2.out, List.length_take]; omega, by omega, fun q u hq => ?_, fun q hq _ => key q hq⟩
      rw [e2.out] at hq
      rw [List.getElem?_take] at hq
      split at hq
      · obtain ⟨hq1, rfl⟩ := List.getElem?_eq_some_iff.1 hq
        exact key q hq1
      · cases hq
    replace hB : Bk w g 3 cs := hB
    have hg := hB.lt
    rw [Nat.mul_one] at hcs
    replace hD := hide hD
    replace hB := hide hB
    replace hcs := hide hcs
    clear hown hx e2
    unfold maxLen at hcm
    go_enter Try.func19, Try.ntmps19
    go_wp2_with (go_at_call 35; refine hI.out.mono ?_; rintro e w1 ⟨rfl, hb1⟩)
    have hB1 := hide (hB.out.below hb1 hg)
    replace hb1 := hide (hb1.mono hbase)
    clear hI hB
    go_loopw [5, 6] (fun a b wr => ∃ (i j : Nat) (cs' : Array Value), a = .int .i64 i ∧ b = .int .i64 j ∧ j ≤ xs.length ∧ i < j ∧ Hid (DelI p xs j i cs') ∧ Hid (Bk wr g 3 cs') ∧ Hid (cs'.size = cap) ∧ Hid (Below base w wr)) (fun _ b _ => xs.length - (intOf b).toNat)
    case atStart => exact ⟨i0, i0 + 1, cs, rfl, by go_num, by omega, by omega, hD, hB1, hcs, hb1⟩
    case round =>
      clear hD hB1 hcs hb1
      obtain ⟨i, j, cs', rfl, rfl, hj, hij, hD, hB, hcs, hbr⟩ := hrel
      have hcell := hB.out.cell
      have hfz := hB.out.frozen
      have hgr := hB.out.lt
      by_cases hlt : j < xs.length
      · have hltz : (j : Int) < (xs.length : Int) := by omega
        have hcj : wr.cell? ⟨g, j, none⟩ = some (.int .i64 xs[j]) := by rw [hcell]; exact hD.out.2.2.2 j hlt (Nat.le_refl _)
        obtain ⟨old, hci⟩ : ∃ old, wr.cell? ⟨g, i, none⟩ = some old := ⟨cs'[i]'(by have := hcs.out; omega), by rw [hcell]; exact Array.getElem?_eq_getElem _⟩
        have hfi := hfz i
        have hci' := hide hci
        have hcall := hf.out xs[j] wr (List.getElem_mem _) hbr.out
        clear hcell hfz
        cases hp : p xs[j] with
        | true =>
          rw [hp] at hcall
          have hv := hide (hD.out.skip hlt hp)
          clear hp hci
          go_wp2_with (go_at_fn fid; refine hcall.mono ?_; rintro e w' ⟨rfl, hb2⟩)
          go_roundw
          case rel => exact ⟨i, j + 1, cs', rfl, by go_num, by omega, by omega, hv, hide (hB.out.below hb2 hgr), hcs, hide (hbr.out.trans (hb2.mono (by omega)))⟩
          case measure => simp [intOf]; omega
        | false =>
          rw [hp] at hcall
          have hv := hide (hD.out.keep hlt (by have := hcs.out; omega) hp)
          clear hp hci
          go_wp2_with (go_at_fn fid; refine hcall.mono ?_; rintro e w' ⟨rfl, hb2⟩; have hci2 := (hb2.cell (p := ⟨g, i, none⟩) hgr).trans hci'.out; have hfi2 := (hb2.frozen (p := ⟨g, i, none⟩) hgr).trans hfi; clear hcj)
          go_roundw
          case rel => exact ⟨i + 1, j + 1, _, by go_num, by go_num, by omega, by omega, hv, hide ((hB.out.below hb2 hgr).set_ i _), hide (by simpa using hcs.out), hide ((hbr.out.trans (hb2.mono (by omega))).setCell hbg _)⟩
          case measure => simp [intOf]; omega
      · have hje : j = xs.length := by omega
        subst hje
        have hcl : ∀ ty, (Builtin.clear_ #[27] ty #[.slice (some ⟨g, i, none⟩) (xs.length - i) (cap - i)]).run Try.prog wr = .ok (.tuple #[]) (wr.setCells g i (List.replicate (xs.length - i) (.int .i64 0))) :=
          fun ty => Lib.run_clear_slice wr _ _ ty _ Try.underlying27 zeroI rfl rfl g i _ _ (by omega) (fun t ht => by rw [hcell, Array.getElem?_eq_getElem (by have := hcs.out; omega)]; rfl) (fun t ht => hfz _)
        have hfin : ((xs.take xs.length).filter fun x => !p x) = xs.filter fun x => !p x := by rw [List.take_length]
        obtain ⟨d1, d2, d3, -⟩ := hD.out
        rw [hfin] at d1 d3
        obtain ⟨cs2, k1, k2, k3⟩ := hB.out.setCells (List.replicate (xs.length - i) (.int .i64 0)) i
        have hsz := hcs.out
        have hown2 := hide (own_of_cells (base := base) (n := i) (xs := (xs.filter fun x => !p x).map (Value.int .i64)) k1 hbg (k2.trans hsz) (by omega) hcm (by rw [List.length_map]; exact d1.symm) (fun q u hq => by
          rw [List.getElem?_map] at hq
          cases hu : (xs.filter fun x => !p x)[q]? with
          | none => rw [hu] at hq; cases hq
          | some u' =>
            rw [hu] at hq
            simp at hq
            subst hq
            have : q < i := by rw [d1]; exact (List.getElem?_eq_some_iff.1 hu).1
            rw [k3 q this]
            exact d3 q u' hu))
        have hbf := hide (below_setCs hbg (List.replicate (xs.length - i) (.int .i64 0)) i w wr hbr.out)
        replace d1 := hide d1
        clear hcell hfz d2 d3 k1 k2 k3 hfin hsz
        have hii : (i : Int) < (xs.length : Int) := by omega
        have hii2 : (i : Int) ≤ (cap : Int) := by omega
        have hic : i < cap := by omega
        go_wp2
        go_ret
        exact ⟨_, rfl, by rw [← d1.out]; exact hown2.out, hbf.out⟩
end Go.Proofs.Ytjijggighppjbaa

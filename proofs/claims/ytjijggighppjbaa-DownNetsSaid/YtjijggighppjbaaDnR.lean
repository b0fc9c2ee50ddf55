import Derived.Test.YtjijggighppjbaaDnO
import Derived.Lib.SliceRun
import Derived.Lib.Walk
import Derived.Shelf.Abstract
namespace Go.Proofs.Ytjijggighppjbaa
open Go.RowKit
def touchB (n : Net) (e : Int × Int) (x : Int) : Bool := decide ((n.links.getD x.toNat ((0, 0), (0, 0))).1 = e) || decide ((n.links.getD x.toNat ((0, 0), (0, 0))).2 = e)
def goneB (n : Net) (l : List Int) (e : Int × Int) : Bool := l.any (touchB n e)
theorem touchB_at {n : Net} {e : Int × Int} {k : Nat} (hk : k < n.links.length) : touchB n e (k : Int) = (decide (n.links[k].1 = e) || decide (n.links[k].2 = e)) := by
  unfold touchB
  rw [Int.toNat_natCast, List.getD_eq_getElem?_getD, List.getElem?_eq_getElem hk]
  rfl
set_option maxHeartbeats 1000000 in
theorem net11_any (n : Net) (A3 : Option Addr) (c3 : Nat) (nb eb : Nat) (s p : Int) (k : Nat) (hk : k < n.links.length) (w : World) (h3 : Sl 4 rLink w w.heap.size A3 n.links)
    (hn : w.cell? ⟨nb, 2, none⟩ = some (.slice A3 n.links.length c3)) (he1 : w.cell? ⟨eb, 0, none⟩ = some (.int .i64 s)) (he2 : w.cell? ⟨eb, 1, none⟩ = some (.int .i64 p)) :
    Calls Try.prog 18 #[.int .i64 (k : Int), .pointer (some ⟨nb, 0, none⟩), .pointer (some ⟨eb, 0, none⟩)] w fun e w' => e = .returned (.bool (touchB n (s, p) k)) ∧ ∃ m, w' = w.drewN m := by
  have l3 := h3.len
  have hv := hide (touchB_at (e := (s, p)) hk)
  obtain ⟨b, o, rfl, hb, x1, x2, x3, x4⟩ := h3.link hk
  clear h3
  have hki : (k : Int) < (n.links.length : Int) := by omega
  go_enter Try.func18, Try.ntmps18
  by_cases he : n.links[k].1 = (s, p)
  · have hvk := hide (show touchB n (s, p) k = true from by rw [hv.out]; simp [he])
    go_wp2_with fail
    go_quiet (fail)
    go_wp2
    go_ret
    exact ⟨ret_b hvk.out.symm, _, rfl⟩
  · have he' := hide he
    by_cases hf : n.links[k].2 = (s, p)
    · have hvk := hide (show touchB n (s, p) k = true from by rw [hv.out]; simp [hf])
      rcases end_ne he with e1 | ⟨e1, e2⟩ <;> clear he
      all_goals
        go_wp2_with fail
        go_quiet (fail)
        go_wp2
        go_ret
        exact ⟨ret_b hvk.out.symm, _, rfl⟩
    · have hvk := hide (show touchB n (s, p) k = false from by rw [hv.out]; simp [he, hf])
      rcases end_ne he with e1 | ⟨e1, e2⟩ <;> rcases end_ne hf with f1 | ⟨f1, f2⟩ <;> clear he hf
      all_goals
        go_wp2_with fail
        go_quiet (fail)
        go_wp2
        go_ret
        exact ⟨ret_b hvk.out.symm, _, rfl⟩
/-- The place of the first one that is so, or -1. -/
def idxP (p : Int → Bool) (xs : List Int) : Int := match xs.findIdx? p with
  | some i => (i : Int)
  | none => -1
theorem idxP_at {p : Int → Bool} {xs : List Int} {k : Nat} (hk : k < xs.length) (h : (xs.take k).any p = false) (hp : p xs[k] = true) : idxP p xs = (k : Int) := by
  have : xs.findIdx? p = some k := by
    rw [List.findIdx?_eq_some_iff_getElem]
    refine ⟨hk, hp, fun j hj => ?_⟩
    have := List.any_eq_false.1 h xs[j] (List.mem_take_iff_getElem.2 ⟨j, by omega, rfl⟩)
    exact this
  rw [idxP, this]
theorem idxP_no {p : Int → Bool} {xs : List Int} (h : xs.any p = false) : idxP p xs = -1 := by
  have : xs.findIdx? p = none := by
    rw [List.findIdx?_eq_none_iff]
    intro x hx
    simpa using List.any_eq_false.1 h x hx
  rw [idxP, this]
theorem idxP_nonneg (p : Int → Bool) (xs : List Int) : decide (0 ≤ idxP p xs) = xs.any p := by
  unfold idxP
  cases h : xs.findIdx? p with
  | none =>
    rw [List.findIdx?_eq_none_iff] at h
    have : xs.any p = false := List.any_eq_false.2 fun x hx => by simp [h x hx]
    rw [this]; rfl
  | some i =>
    rw [List.findIdx?_eq_some_iff_getElem] at h
    obtain ⟨hi, hp, -⟩ := h
    rw [any_of_getElem hi hp]
    simp
/-- A function value that answers p of each of xs, in every world in which all below B lies as it lay. -/
def FnB (B : Nat) (fid : Nat) (lb : Array Value) (p : Int → Bool) (xs : List Int) (w : World) : Prop :=
  ∀ (x : Int) (W : World), x ∈ xs → Below B w W → Calls Try.prog fid (#[.int .i64 x] ++ lb) W fun e w' => e = .returned (.bool (p x)) ∧ Below W.heap.size W w'
set_option maxHeartbeats 1000000 in
theorem indexFunc_any (fid : Nat) (lb : Array Value) (eg : ∀ args w, (callFunc fid args).run Try.prog w = .ok (.enter fid args) w) (p : Int → Bool) (A : Option Addr) (cap : Nat) (xs : List Int) (w : World) (h : Sl 1 rInt w w.heap.size A xs) (hf : FnB w.heap.size fid lb p xs w) :
    Calls Try.prog 35 #[.slice A xs.length cap, .func (.func fid) #[] lb] w fun e w' => e = .returned (.int .i64 (idxP p xs)) ∧ Below w.heap.size w w' := by
  have hl := h.len
  replace hf := hide hf
  go_enter Try.func35, Try.ntmps35
  go_wp2
  go_loopw [5, 8] (fun _ i wr => ∃ k : Nat, k ≤ xs.length ∧ i = .int .i64 k ∧ Hid ((xs.take k).any p = false) ∧ Hid (Below w.heap.size w wr)) (fun _ i _ => xs.length - (intOf i).toNat)
  case atStart => exact ⟨0, Nat.zero_le _, rfl, hide (by simp), hide (Below.refl _ _)⟩
  case round =>
    obtain ⟨k, hk, rfl, hc, hbr⟩ := hrel
    have hcw := bcell' hbr.out
    by_cases hlt : k < xs.length
    · obtain ⟨b, o, rfl, hb, hcell⟩ := h.int hlt
      have hltz : (k : Int) < (xs.length : Int) := by omega
      clear h
      have hcall := hf.out xs[k] wr (List.getElem_mem _) hbr.out
      cases hp : p xs[k] with
      | true =>
        rw [hp] at hcall
        have hv := hide (idxP_at hlt hc.out hp)
        clear hp
        go_wp2_with (go_at_fn fid; refine hcall.mono ?_; rintro e w' ⟨rfl, hb1⟩)
        go_ret
        exact ⟨ret_int hv.out.symm, hbr.out.trans (hb1.mono hbr.out.size)⟩
      | false =>
        rw [hp] at hcall
        have hv := hide (any_take_succ hlt hc.out hp)
        clear hp
        go_wp2_with (go_at_fn fid; refine hcall.mono ?_; rintro e w' ⟨rfl, hb1⟩)
        go_roundw
        case rel => exact ⟨k + 1, by omega, by go_num, hv, hide (hbr.out.trans (hb1.mono hbr.out.size))⟩
        case measure => simp [intOf]; omega
    · have hv := hide (idxP_no (any_of_take hk hlt hc.out))
      go_wp2
      go_ret
      exact ⟨ret_int hv.out.symm, hbr.out⟩
set_option maxHeartbeats 1000000 in
theorem containsFunc_any (fid : Nat) (lb : Array Value) (eg : ∀ args w, (callFunc fid args).run Try.prog w = .ok (.enter fid args) w) (p : Int → Bool) (A : Option Addr) (cap : Nat) (xs : List Int) (w : World) (h : Sl 1 rInt w w.heap.size A xs) (hf : FnB w.heap.size fid lb p xs w) :
    Calls Try.prog 17 #[.slice A xs.length cap, .func (.func fid) #[] lb] w fun e w' => e = .returned (.bool (xs.any p)) ∧ Below w.heap.size w w' := by
  have hv := hide (idxP_nonneg p xs)
  replace hf := hide hf
  go_enter Try.func17, Try.ntmps17
  go_wp2_with (go_at_call 35; refine (indexFunc_any fid lb eg p A cap xs _ h hf.out).mono ?_; rintro e w' ⟨rfl, hb⟩)
  go_ret
  exact ⟨ret_b hv.out, hb⟩
theorem enters18 : ∀ args w, (callFunc 18 args).run Try.prog w = .ok (.enter 18 args) w := enters_of Try.func18 (by kernel_rfl) rfl
theorem enters21 : ∀ args w, (callFunc 21 args).run Try.prog w = .ok (.enter 21 args) w := enters_of Try.func21 (by kernel_rfl) rfl
set_option maxHeartbeats 1000000 in
theorem net1_any (n : Net) (l : List Int) (A3 L : Option Addr) (c3 lc : Nat) (nb lbx : Nat) (s p : Int) (w : World) (h3 : Sl 4 rLink w w.heap.size A3 n.links) (hl : Sl 1 rInt w w.heap.size L l) (hlb : lbx < w.heap.size) (hnb : nb < w.heap.size)
    (hn : w.cell? ⟨nb, 2, none⟩ = some (.slice A3 n.links.length c3)) (hL : w.cell? ⟨lbx, 0, none⟩ = some (.slice L l.length lc)) (hin : ∀ x ∈ l, 0 ≤ x ∧ x < n.links.length) :
    Calls Try.prog 16 #[.agg #[.int .i64 s, .int .i64 p], .pointer (some ⟨lbx, 0, none⟩), .pointer (some ⟨nb, 0, none⟩)] w fun e w' => e = .returned (.bool (goneB n l (s, p))) ∧ Below w.heap.size w w' := by
  have hin' := hide hin
  clear hin
  obtain ⟨wb, hwb, hsz, hw, hcb, -⟩ := box1 w #[.int .i64 s, .int .i64 p] 38
  have hf : FnB wb.heap.size 18 #[.pointer (some ⟨nb, 0, none⟩), .pointer (some ⟨w.heap.size, 0, none⟩)] (touchB n (s, p)) l wb := fun x W hx hb => by
    obtain ⟨h0, h1⟩ := hin'.out x hx
    obtain ⟨k, rfl⟩ := Int.eq_ofNat_of_zero_le h0
    have hb' := hw.trans (hb.mono (by omega))
    refine (net11_any n A3 c3 nb w.heap.size s p k (by omega) W ((h3.below sta_link hb').more sta_link hb'.size) ?_ ?_ ?_).mono fun e w' ⟨he, m, hm⟩ => ⟨he, by rw [hm]; exact below_drewN (Below.refl _ _) _⟩
    · exact (hb'.cell (p := ⟨nb, 2, none⟩) hnb).trans hn
    · exact (hb.cell (p := ⟨w.heap.size, 0, none⟩) (by show w.heap.size < _; omega)).trans (hcb 0)
    · exact (hb.cell (p := ⟨w.heap.size, 1, none⟩) (by show w.heap.size < _; omega)).trans (hcb 1)
  have hLb := (hw.cell (p := ⟨lbx, 0, none⟩) hlb).trans hL
  have hlS := hide ((hl.below sta_int hw).more sta_int hw.size)
  replace hf := hide hf
  replace hw := hide hw
  replace h3 := hide h3
  clear hcb hn hL
  go_enter Try.func16, Try.ntmps16
  go_wp2_with (go_at_call 17; refine (containsFunc_any _ _ enters18 (touchB n (s, p)) L lc l _ hlS.out hf.out).mono ?_; rintro e w' ⟨rfl, hb⟩)
  go_ret
  exact ⟨rfl, hw.out.trans (hb.mono hw.out.size)⟩
set_option maxHeartbeats 1000000 in
theorem net2_any (n : Net) (l : List Int) (A3 L : Option Addr) (c3 lc : Nat) (nb lbx gb ib : Nat) (s p : Int) (w : World) (h3 : Sl 4 rLink w w.heap.size A3 n.links) (hl : Sl 1 rInt w w.heap.size L l) (hlb : lbx < w.heap.size) (hnb : nb < w.heap.size)
    (hn : w.cell? ⟨nb, 2, none⟩ = some (.slice A3 n.links.length c3)) (hL : w.cell? ⟨lbx, 0, none⟩ = some (.slice L l.length lc)) (hin : ∀ x ∈ l, 0 ≤ x ∧ x < n.links.length)
    (hg : w.cell? ⟨gb, 0, none⟩ = some (.func (.func 16) #[] #[.pointer (some ⟨lbx, 0, none⟩), .pointer (some ⟨nb, 0, none⟩)])) (hi : w.cell? ⟨ib, 0, none⟩ = some (.int .i64 s)) :
    Calls Try.prog 21 #[.int .i64 p, .pointer (some ⟨gb, 0, none⟩), .pointer (some ⟨ib, 0, none⟩)] w fun e w' => e = .returned (.bool (goneB n l (s, p))) ∧ Below w.heap.size w w' := by
  have hc := hide (net1_any n l A3 L c3 lc nb lbx s p w h3 hl hlb hnb hn hL hin)
  clear h3 hl hn hL hin
  go_enter Try.func21, Try.ntmps21
  go_wp2_with (go_at_call 16; refine hc.out.mono ?_; rintro e w' ⟨rfl, hb⟩)
  go_ret
  exact ⟨rfl, hb⟩
end Go.Proofs.Ytjijggighppjbaa

import Derived.Test.YtjijggighppjbaaMem
import Derived.Test.YtjijggighppjbaaDnP
namespace Go.Proofs.Ytjijggighppjbaa
open Go.RowKit
set_option maxHeartbeats 400000 in
theorem has_any (A : Option Addr) (cap : Nat) (xs : List Int) (n : Int) (w : World) (h : Sl 1 rInt w w.heap.size A xs) :
    Calls Try.prog 23 #[.slice A xs.length cap, .int .i64 n] w fun e w' => e = .returned (.bool (decide (n ∈ xs))) ∧ w = w' := by
  have hl := h.len
  go_enter Try.func23, Try.ntmps23
  go_wp2
  go_loop [5] (fun i => ∃ k : Nat, k ≤ xs.length ∧ i = .int .i64 k ∧ n ∉ xs.take k) (fun i => xs.length - (intOf i).toNat)
  case atStart => exact ⟨0, Nat.zero_le _, rfl, by simp⟩
  case round =>
    obtain ⟨k, hk, rfl, hc⟩ := hrel
    by_cases hlt : k < xs.length
    · obtain ⟨b, o, rfl, hb, hcell⟩ := h.int hlt
      clear h
      by_cases he : (xs[k] == n) = true
      · go_wp2
        go_ret
        have : n ∈ xs := by rw [beq_iff_eq] at he; subst he; exact List.getElem_mem _
        simp [this]
      · have he' : (xs[k] == n) = false := by simpa using he
        have hs := hide (notMem_take_succ hlt hc he')
        go_wp2
        go_round
        case rel => exact ⟨k + 1, by omega, by go_num, hs.out⟩
        case measure => simp [intOf]; omega
    · go_wp2
      go_ret
      rw [List.take_of_length_le (by omega)] at hc
      simp [hc]
@[reducible] def netV (n : Net) (A1 A2 A3 : Option Addr) (c1 c2 c3 : Nat) : Value := .agg #[.slice A1 n.sw.length c1, .slice A2 n.ports.length c2, .slice A3 n.links.length c3]
def NetS (w : World) (B : Nat) (A1 A2 A3 : Option Addr) (n : Net) : Prop := Sl 1 rStr w B A1 n.sw ∧ Sl 1 (rSl 1 rInt) w B A2 n.ports ∧ Sl 4 rLink w B A3 n.links
theorem NetS.keep {w w' : World} {B : Nat} {A1 A2 A3 : Option Addr} {n : Net} (h : NetS w B A1 A2 A3 n) (hk : ∀ p : Addr, p.block < B → w'.cell? p = w.cell? p) : NetS w' B A1 A2 A3 n :=
  ⟨h.1.keep sta_str hk, h.2.1.keep (sta_sl sta_int) hk, h.2.2.keep sta_link hk⟩
theorem NetS.more {w : World} {B B' : Nat} {A1 A2 A3 : Option Addr} {n : Net} (h : NetS w B A1 A2 A3 n) (hB : B ≤ B') : NetS w B' A1 A2 A3 n :=
  ⟨h.1.more sta_str hB, h.2.1.more (sta_sl sta_int) hB, h.2.2.more sta_link hB⟩
theorem NetS.below {w w' : World} {B : Nat} {A1 A2 A3 : Option Addr} {n : Net} (h : NetS w B A1 A2 A3 n) (hb : Below B w w') : NetS w' B A1 A2 A3 n := h.keep fun _ hp => hb.cell hp
theorem NetS.alloc {w : World} {B : Nat} {A1 A2 A3 : Option Addr} {n : Net} (h : NetS w B A1 A2 A3 n) (hB : B ≤ w.heap.size) (o : Obj) : NetS (w.alloc o) B A1 A2 A3 n := h.keep fun p hp => World.cell?_alloc_lt w o p (by omega)
set_option maxHeartbeats 400000 in
theorem great_any (n : Net) (A1 A2 A3 : Option Addr) (c1 c2 c3 : Nat) (w : World) (h : NetS w w.heap.size A1 A2 A3 n) :
    Calls Try.prog 4 #[netV n A1 A2 A3 c1 c2 c3] w fun e w' => e = .returned (.bool (greatB n)) ∧ Below w.heap.size w w' := by
  obtain ⟨h1, h2, h3⟩ := h
  have l1 := h1.len
  have l2 := h2.len
  go_enter Try.func4, Try.ntmps4
  go_wp2
  go_loop [3] (fun i => ∃ k : Nat, k ≤ n.sw.length ∧ i = .int .i64 k ∧ (n.sw.take k).any (fun s => decide (40 < s.size)) = false) (fun i => n.sw.length - (intOf i).toNat)
  case atStart => exact ⟨0, Nat.zero_le _, rfl, by simp⟩
  case round =>
    obtain ⟨k, hk, rfl, hc⟩ := hrel
    by_cases hlt : k < n.sw.length
    · obtain ⟨b, o, rfl, hb, hcell, hz⟩ := h1.str hlt
      clear h1
      by_cases he : 40 < n.sw[k].size
      · have hs := hide (any_of_getElem (p := fun s => decide (40 < s.size)) hlt (by simpa using he))
        go_wp2
        go_ret
        exact ⟨by simp [greatB, hs.out], (Below.refl _ _).alloc (Nat.le_refl _) _⟩
      · have hs := hide (any_take_succ (p := fun s => decide (40 < s.size)) hlt hc (by simpa using he))
        go_wp2
        go_round
        case rel => exact ⟨k + 1, by omega, by go_num, hs.out⟩
        case measure => simp [intOf]; omega
    · have hs := hide (any_of_take hk hlt hc)
      clear hc h1
      go_wp2
      go_loop [4] (fun i => ∃ k : Nat, k ≤ n.ports.length ∧ i = .int .i64 k ∧ (n.ports.take k).any (fun s => decide (30 < s.length)) = false) (fun i => n.ports.length - (intOf i).toNat)
      case atStart => exact ⟨0, Nat.zero_le _, rfl, by simp⟩
      case round =>
        obtain ⟨k', hk', rfl, hc⟩ := hrel
        by_cases hlt' : k' < n.ports.length
        · obtain ⟨b, o, A', cap', rfl, hb, hcell, -⟩ := h2.ints hlt'
          clear h2
          by_cases he : 30 < n.ports[k'].length
          · have hs' := hide (any_of_getElem (p := fun s => decide (30 < s.length)) hlt' (by simpa using he))
            go_wp2
            go_ret
            exact ⟨by simp [greatB, hs'.out], (Below.refl _ _).alloc (Nat.le_refl _) _⟩
          · have hs' := hide (any_take_succ (p := fun s => decide (30 < s.length)) hlt' hc (by simpa using he))
            go_wp2
            go_round
            case rel => exact ⟨k' + 1, by omega, by go_num, hs'.out⟩
            case measure => simp [intOf]; omega
        · have hs' := hide (any_of_take hk' hlt' hc)
          clear hc
          go_wp2
          all_goals
            go_ret
            exact ⟨ret_bool (by simp [greatB, hs.out, hs'.out]; try omega), (Below.refl _ _).alloc (Nat.le_refl _) _⟩
end Go.Proofs.Ytjijggighppjbaa

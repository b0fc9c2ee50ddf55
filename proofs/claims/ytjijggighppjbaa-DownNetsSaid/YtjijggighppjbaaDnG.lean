import Derived.Test.YtjijggighppjbaaDnF
namespace Go.Proofs.Ytjijggighppjbaa
open Go.RowKit
def sameB (a b : Net) : Bool := decide (a.sw = b.sw) && decide (a.ports = b.ports) && decide (a.links = b.links)
theorem sameB_no {a b : Net} (h : ¬ (a.sw = b.sw ∧ a.ports = b.ports ∧ a.links = b.links)) : sameB a b = false := by
  rw [Bool.eq_false_iff]; intro g; simp [sameB] at g; exact h ⟨g.1.1, g.1.2, g.2⟩
theorem eq_of_take {α : Type} {xs ys : List α} {k : Nat} (hl : xs.length = ys.length) (hn : ¬ k < xs.length) (h : xs.take k = ys.take k) : xs = ys := by
  rwa [List.take_of_length_le (by omega), List.take_of_length_le (by omega)] at h
theorem link_ne {a b : (Int × Int) × (Int × Int)} (h : ¬ a = b) : (¬ a.1.1 = b.1.1) ∨ (a.1.1 = b.1.1 ∧ ¬ a.1.2 = b.1.2) ∨ (a.1.1 = b.1.1 ∧ a.1.2 = b.1.2 ∧ ¬ a.2.1 = b.2.1) ∨ (a.1.1 = b.1.1 ∧ a.1.2 = b.1.2 ∧ a.2.1 = b.2.1 ∧ ¬ a.2.2 = b.2.2) := by
  by_cases e1 : a.1.1 = b.1.1
  · by_cases e2 : a.1.2 = b.1.2
    · by_cases e3 : a.2.1 = b.2.1
      · exact .inr (.inr (.inr ⟨e1, e2, e3, fun e4 => h (Prod.ext (Prod.ext e1 e2) (Prod.ext e3 e4))⟩))
      · exact .inr (.inr (.inl ⟨e1, e2, e3⟩))
    · exact .inr (.inl ⟨e1, e2⟩)
  · exact .inl e1
set_option maxHeartbeats 2000000 in
theorem same_any (a b : Net) (A1 A2 A3 B1 B2 B3 : Option Addr) (c1 c2 c3 d1 d2 d3 : Nat) (w : World) (ha : NetS w w.heap.size A1 A2 A3 a) (hb : NetS w w.heap.size B1 B2 B3 b) :
    Calls Try.prog 8 #[netV a A1 A2 A3 c1 c2 c3, netV b B1 B2 B3 d1 d2 d3] w fun e w' => e = .returned (.bool (sameB a b)) ∧ Below w.heap.size w w' := by
  obtain ⟨h1, h2, h3⟩ := ha
  obtain ⟨g1, g2, g3⟩ := hb
  have l1 := h1.len
  have l2 := h2.len
  have l3 := h3.len
  have hbw : ∀ o1 o2 : Obj, ∀ m : Nat, Below w.heap.size w (((w.alloc o1).alloc o2).drewN m) := fun o1 o2 m => below_drewN (((Below.refl _ _).alloc (Nat.le_refl _) _).alloc (by simp) _) m
  go_enter Try.func8, Try.ntmps8
  by_cases e1 : a.sw.length = b.sw.length
  · have b1 : ((a.sw.length : Int) != b.sw.length) = false := by simp [e1]
    have E1 := hide e1
    by_cases e2 : a.ports.length = b.ports.length
    · have b2 : ((a.ports.length : Int) != b.ports.length) = false := by simp [e2]
      have E2 := hide e2
      by_cases e3 : a.links.length = b.links.length
      · have b3 : ((a.links.length : Int) != b.links.length) = false := by simp [e3]
        have E3 := hide e3
        clear e1 e2 e3
        go_wp2
        go_loopw [5] (fun i wr => ∃ k : Nat, k ≤ a.sw.length ∧ i = .int .i64 k ∧ Hid (a.sw.take k = b.sw.take k) ∧ ∃ m, wr = ((w.alloc (.cells #[.slice A1 a.sw.length c1, .slice A2 a.ports.length c2, .slice A3 a.links.length c3] 26)).alloc (.cells #[.slice B1 b.sw.length d1, .slice B2 b.ports.length d2, .slice B3 b.links.length d3] 26)).drewN m) (fun i _ => a.sw.length - (intOf i).toNat)
        case atStart => exact ⟨0, Nat.zero_le _, rfl, hide (by simp), 0, rfl⟩
        case round =>
          obtain ⟨k, hk, rfl, hc, m, rfl⟩ := hrel
          by_cases hlt : k < a.sw.length
          · obtain ⟨x, o, rfl, hx, hcell, -⟩ := h1.str hlt
            have hlt' : k < b.sw.length := by have := E1.out; omega
            obtain ⟨x', o', rfl, hx', hcell', -⟩ := g1.str hlt'
            clear h1 g1
            by_cases he : a.sw[k] = b.sw[k]
            · have ht := str_eq he
              have hv := hide (take_snoc_eq hlt hlt' hc.out he)
              clear he
              go_wp2_with fail
              go_quiet (fail)
              go_wp2
              go_roundw
              case rel => exact ⟨k + 1, by omega, by go_num, hv, m + nq, rfl⟩
              case measure => simp [intOf]; omega
            · have ht := str_ne he
              have hv := hide (sameB_no (a := a) (b := b) (fun g => he (by simp [g.1])))
              clear he
              go_wp2_with fail
              go_quiet (fail)
              go_wp2
              go_ret
              exact ⟨ret_b hv.out.symm, below_drewN (hbw _ _ _) _⟩
          · have S1 := hide (eq_of_take E1.out hlt hc.out)
            clear hc h1 g1
            go_wp2
            go_loopw [6, 7] (fun i _ wr => ∃ k : Nat, k ≤ a.ports.length ∧ i = .int .i64 k ∧ Hid (a.ports.take k = b.ports.take k) ∧ ∃ m, wr = ((w.alloc (.cells #[.slice A1 a.sw.length c1, .slice A2 a.ports.length c2, .slice A3 a.links.length c3] 26)).alloc (.cells #[.slice B1 b.sw.length d1, .slice B2 b.ports.length d2, .slice B3 b.links.length d3] 26)).drewN m) (fun i _ _ => a.ports.length - (intOf i).toNat)
            case atStart => exact ⟨0, Nat.zero_le _, rfl, hide (by simp), m, rfl⟩
            case round =>
              obtain ⟨k2, hk2, rfl, hc, m2, rfl⟩ := hrel
              by_cases hlt2 : k2 < a.ports.length
              · obtain ⟨x, o, P, pc, rfl, hx, hcell, hp⟩ := h2.ints hlt2
                have hlt2' : k2 < b.ports.length := by have := E2.out; omega
                obtain ⟨x', o', P', pc', rfl, hx', hcell', hp'⟩ := g2.ints hlt2'
                have lp := hp.len
                clear h2 g2
                by_cases he : a.ports[k2].length = b.ports[k2].length
                · have hbt : ((a.ports[k2].length : Int) != b.ports[k2].length) = false := by simp [he]
                  have he := hide he
                  go_wp2_with fail
                  go_quiet (fail)
                  go_wp2
                  go_loopw [7] (fun i wr => ∃ k : Nat, k ≤ a.ports[k2].length ∧ i = .int .i64 k ∧ Hid (a.ports[k2].take k = b.ports[k2].take k) ∧ ∃ m, wr = ((w.alloc (.cells #[.slice A1 a.sw.length c1, .slice (some ⟨x, o, none⟩) a.ports.length c2, .slice A3 a.links.length c3] 26)).alloc (.cells #[.slice B1 b.sw.length d1, .slice (some ⟨x', o', none⟩) b.ports.length d2, .slice B3 b.links.length d3] 26)).drewN m) (fun i _ => a.ports[k2].length - (intOf i).toNat)
                  case atStart => exact ⟨0, Nat.zero_le _, rfl, hide (by simp), m2 + nq, drN _ _ _⟩
                  case round =>
                    obtain ⟨k3, hk3, rfl, hc3, m3, rfl⟩ := hrel
                    by_cases hlt3 : k3 < a.ports[k2].length
                    · obtain ⟨y, u, rfl, hy, hcy⟩ := hp.int hlt3
                      have hlt3' : k3 < b.ports[k2].length := by have := he.out; omega
                      obtain ⟨y', u', rfl, hy', hcy'⟩ := hp'.int hlt3'
                      clear hp hp'
                      by_cases hq : a.ports[k2][k3] = b.ports[k2][k3]
                      · have hbq : (a.ports[k2][k3] != b.ports[k2][k3]) = false := by simp [hq]
                        have hv := hide (take_snoc_eq hlt3 hlt3' hc3.out hq)
                        clear hq
                        go_wp2_with fail
                        go_quiet (fail)
                        go_wp2
                        go_roundw
                        case rel => exact ⟨k3 + 1, by omega, by go_num, hv, m3 + _, rfl⟩
                        case measure => simp [intOf]; omega
                      · have hbq : (a.ports[k2][k3] != b.ports[k2][k3]) = true := by simp [hq]
                        have hv := hide (sameB_no (a := a) (b := b) (fun g => hq (by simp [g.2.1])))
                        clear hq
                        go_wp2_with fail
                        go_quiet (fail)
                        go_wp2
                        go_ret
                        exact ⟨ret_b hv.out.symm, below_drewN (hbw _ _ _) _⟩
                    · have S2 := hide (take_snoc_eq hlt2 hlt2' hc.out (eq_of_take he.out hlt3 hc3.out))
                      go_wp2
                      go_roundw
                      case rel => exact ⟨k2 + 1, by omega, by go_num, S2, m3, rfl⟩
                      case measure => simp [intOf]; omega
                · have hbt : ((a.ports[k2].length : Int) != b.ports[k2].length) = true := by simp; omega
                  have hv := hide (sameB_no (a := a) (b := b) (fun g => he (by simp [g.2.1])))
                  clear he
                  go_wp2_with fail
                  go_quiet (fail)
                  go_wp2
                  go_ret
                  exact ⟨ret_b hv.out.symm, below_drewN (hbw _ _ _) _⟩
              · have S2 := hide (eq_of_take E2.out hlt2 hc.out)
                clear hc h2 g2
                go_wp2
                go_loopw [8] (fun i wr => ∃ k : Nat, k ≤ a.links.length ∧ i = .int .i64 k ∧ Hid (a.links.take k = b.links.take k) ∧ ∃ m, wr = ((w.alloc (.cells #[.slice A1 a.sw.length c1, .slice A2 a.ports.length c2, .slice A3 a.links.length c3] 26)).alloc (.cells #[.slice B1 b.sw.length d1, .slice B2 b.ports.length d2, .slice B3 b.links.length d3] 26)).drewN m) (fun i _ => a.links.length - (intOf i).toNat)
                case atStart => exact ⟨0, Nat.zero_le _, rfl, hide (by simp), m2, rfl⟩
                case round =>
                  obtain ⟨k4, hk4, rfl, hc, m4, rfl⟩ := hrel
                  by_cases hlt4 : k4 < a.links.length
                  · obtain ⟨x, o, rfl, hx, x1, x2, x3, x4⟩ := h3.link hlt4
                    have hlt4' : k4 < b.links.length := by have := E3.out; omega
                    obtain ⟨x', o', rfl, hx', y1, y2, y3, y4⟩ := g3.link hlt4'
                    clear h3 g3
                    by_cases he : a.links[k4] = b.links[k4]
                    · have hv := hide (take_snoc_eq hlt4 hlt4' hc.out he)
                      go_wp2_with fail
                      go_quiet (fail)
                      go_wp2
                      go_roundw
                      case rel => exact ⟨k4 + 1, by omega, by go_num, hv, m4 + _, rfl⟩
                      case measure => simp [intOf]; omega
                    · have hv := hide (sameB_no (a := a) (b := b) (fun g => he (by simp [g.2.2])))
                      rcases link_ne he with f1 | ⟨f1, f2⟩ | ⟨f1, f2, f3⟩ | ⟨f1, f2, f3, f4⟩ <;> clear he
                      all_goals
                        go_wp2_with fail
                        go_quiet (fail)
                        go_wp2
                        go_ret
                        exact ⟨ret_b hv.out.symm, below_drewN (hbw _ _ _) _⟩
                  · have hv := hide (show sameB a b = true from by simp [sameB, S1.out, S2.out, eq_of_take E3.out hlt4 hc.out])
                    go_wp2
                    go_ret
                    exact ⟨ret_b hv.out.symm, hbw _ _ _⟩
      · have b3 : ((a.links.length : Int) != b.links.length) = true := by simp; omega
        have hv := hide (sameB_no (a := a) (b := b) (fun g => e3 (by rw [g.2.2])))
        clear e1 e2
        go_wp2
        go_ret
        exact ⟨ret_b hv.out.symm, hbw _ _ 0⟩
    · have b2 : ((a.ports.length : Int) != b.ports.length) = true := by simp; omega
      have hv := hide (sameB_no (a := a) (b := b) (fun g => e2 (by rw [g.2.1])))
      clear e1
      go_wp2
      go_ret
      exact ⟨ret_b hv.out.symm, hbw _ _ 0⟩
  · have b1 : ((a.sw.length : Int) != b.sw.length) = true := by simp; omega
    have hv := hide (sameB_no (a := a) (b := b) (fun g => e1 (by rw [g.1])))
    go_wp2
    go_ret
    exact ⟨ret_b hv.out.symm, hbw _ _ 0⟩
end Go.Proofs.Ytjijggighppjbaa

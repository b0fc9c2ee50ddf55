import Derived.Test.YtbjokgnnklcbcaaGreatDoorTpr29
import Derived.Test.YtbjokgnnklcbcaaGreatDoorTpr01
import Derived.Test.YtbjokgnnklcbcaaGreatDoorTpr05
import Derived.Deep.CutBlock
set_option linter.all false
/-! The document's numbers: of a text. -/
namespace Go.Proofs.YtbjokgnnklcbcaaGreatDoor
open Go.RowKit
theorem digF_eq : ∀ (hex : Bool) (c : Fin 256), digR hex c.val = (if (digitsL hex).contains (if hex then Lib.lowerB (UInt8.ofNat c.val) else UInt8.ofNat c.val) then (dvL hex (if hex then Lib.lowerB (UInt8.ofNat c.val) else UInt8.ofNat c.val) : Int) else 99) := by decide +kernel
theorem dig_eq (hex : Bool) (c : UInt8) : digR hex (c.toNat : Nat) = (if (digitsL hex).contains (if hex then Lib.lowerB c else c) then (dvL hex (if hex then Lib.lowerB c else c) : Int) else 99) := by
 have h := digF_eq hex ⟨c.toNat, c.toNat_lt⟩
 simp only [UInt8.ofNat_toNat] at h
 exact h
/-- The digits, as they are looked at. -/
def digsL (l : List UInt8) : List UInt8 := if Lib.hasPrefix l [48, 120] then Lib.toLowerA (l.drop 2) else l
theorem parseR_eq (l : List UInt8) : parseR l = (if digsL l = [] then .error 4 else if (digsL l).all (fun c => (digitsL (Lib.hasPrefix l [48, 120])).contains c) then (if (accV (Lib.hasPrefix l [48, 120]) (digsL l)).2 then .ok (accV (Lib.hasPrefix l [48, 120]) (digsL l)).1 else .error 5) else .error 4) := rfl
theorem all_take_no {α : Type} {p : α → Bool} {xs : List α} {k : Nat} (hlt : k < xs.length) (he : p xs[k] = false) : xs.all p = false := by
 rw [List.all_eq_false]
 exact ⟨xs[k], List.getElem_mem hlt, by rw [he]; simp⟩
theorem all_take_yes {α : Type} {p : α → Bool} {xs : List α} {k : Nat} (hlt : k < xs.length) (hc : (xs.take k).all p = true) (he : p xs[k] = true) : (xs.take (k + 1)).all p = true := by
 rw [List.take_succ_eq_append_getElem hlt, List.all_append, hc]
 simp [he]
/-- Adding a number as often as a base says. -/
theorem mulStep (d n j : Nat) (o : Bool) (hn : n < two128) : ((d + j * n) % two128 + n) % two128 = (d + (j + 1) * n) % two128 ∧ ((o || decide (two128 ≤ d + j * n)) || decide (two128 ≤ (d + j * n) % two128 + n)) = (o || decide (two128 ≤ d + (j + 1) * n)) := by
 have e : d + (j + 1) * n = d + j * n + n := by rw [Nat.add_mul]; omega
 rw [e]
 generalize d + j * n = m
 refine ⟨by unfold two128; omega, ?_⟩
 rw [Bool.or_assoc]
 congr 1
 rw [Bool.eq_iff_iff]
 simp only [Bool.or_eq_true, decide_eq_true_eq]
 unfold two128 at *
 omega
theorem hexOf (s : ByteArray) : Lib.hasPrefix s.data.toList [48, 120] = true ↔ 1 < s.size ∧ (s.extract 0 2).toList = [48, 120] := by
 rw [ByteArray.toList_eq, ext_take, Lib.size_eq]
 match s.data.toList with
 | [] => simp [Lib.hasPrefix, List.isPrefixOf]
 | [a] => simp [Lib.hasPrefix, List.isPrefixOf]
 | a :: b :: r =>
  rw [show (a :: b :: r).length = r.length + 2 from rfl, List.take_succ_cons, List.take_succ_cons, List.take_zero]
  constructor
  ·intro h
   simp [Lib.hasPrefix, List.isPrefixOf] at h
   exact ⟨by omega, by rw [← h.1, ← h.2]⟩
  ·rintro ⟨-, h⟩
   injection h with h1 h2
   injection h2 with h2
   subst h1 h2
   rfl
set_option maxRecDepth 100000 in
set_option maxHeartbeats 4000000 in
theorem rparse_any (s : ByteArray) (w : World) (hs : s.size ≤ 9223372036854775807) :
  Calls Tryz.prog 99 #[.string s] w fun e w' => e = .returned (parseV (parseR s.data.toList)) ∧ Below w.heap.size w w' := by
 have hhx := hexOf s
 have hpar := parseR_eq s.data.toList
 obtain ⟨RES, hRES⟩ : ∃ RES, RES = parseR s.data.toList := ⟨_, rfl⟩
 rw [← hRES] at hpar ⊢
 clear hRES
 obtain ⟨r, hr⟩ : ∃ r, r = digsL s.data.toList := ⟨_, rfl⟩
 rw [← hr] at hpar
 obtain ⟨hex, hhex⟩ : ∃ hex, hex = Lib.hasPrefix s.data.toList [48, 120] := ⟨_, rfl⟩
 rw [← hhex] at hpar hhx
 unfold digsL at hr
 rw [← hhex] at hr
 replace hpar := hide hpar
 replace hr := hide hr
 replace hhex := hide hhex
 have hb16 : baseN hex ≤ 16 := by cases hex <;> decide
 go_enter Tryz.func99, Tryz.ntmps99
 have hbase : ∀ W, Below w.heap.size w W → Below w.heap.size w (((W.alloc (.cells #[.int .u64 0, .int .u64 0] 62)).alloc (.cells #[.int .u64 0, .int .u64 0] 62)).alloc (.cells #[.int .u64 0, .int .u64 0] 62)) := fun W hW => ((hW.alloc hW.size _).alloc (by have := hW.size; simp; omega) _).alloc (by have := hW.size; simp; omega) _
 have hbx := hide (show NBox (((w.alloc (.cells #[.int .u64 0, .int .u64 0] 62)).alloc (.cells #[.int .u64 0, .int .u64 0] 62)).alloc (.cells #[.int .u64 0, .int .u64 0] 62)) w.heap.size 0 0 ∧ NBox (((w.alloc (.cells #[.int .u64 0, .int .u64 0] 62)).alloc (.cells #[.int .u64 0, .int .u64 0] 62)).alloc (.cells #[.int .u64 0, .int .u64 0] 62)) (w.heap.size + 1) 0 0 ∧ NBox (((w.alloc (.cells #[.int .u64 0, .int .u64 0] 62)).alloc (.cells #[.int .u64 0, .int .u64 0] 62)).alloc (.cells #[.int .u64 0, .int .u64 0] 62)) (w.heap.size + 1 + 1) 0 0 ∧ _ from
  ⟨((NBox.new w 0 0 _).alloc _).alloc _, (by have := NBox.new (w.alloc (.cells #[.int .u64 0, .int .u64 0] 62)) 0 0 62; rw [show (w.alloc (.cells #[.int .u64 0, .int .u64 0] 62)).heap.size = w.heap.size + 1 from by simp] at this; exact this.alloc _), (by have := NBox.new ((w.alloc (.cells #[.int .u64 0, .int .u64 0] 62)).alloc (.cells #[.int .u64 0, .int .u64 0] 62)) 0 0 62; rw [show ((w.alloc (.cells #[.int .u64 0, .int .u64 0] 62)).alloc (.cells #[.int .u64 0, .int .u64 0] 62)).heap.size = w.heap.size + 1 + 1 from by simp] at this; exact this), hbase w (Below.refl _ _)⟩)
 obtain ⟨w0, hw0⟩ : ∃ w0, w0 = ((w.alloc (.cells #[.int .u64 0, .int .u64 0] 62)).alloc (.cells #[.int .u64 0, .int .u64 0] 62)).alloc (.cells #[.int .u64 0, .int .u64 0] 62) := ⟨_, rfl⟩
 rw [← hw0] at hbx
 have hsz := hs
 go_upto_region 3 with (fail)
 go_cut [22] (fun bv wx => bv = .bool hex ∧ wx = w0)
 case first =>
  cases hex with
  | true =>
   obtain ⟨h1, h2⟩ := hhx.1 rfl
   have h1z : (1 : Int) < (s.size : Int) := by omega
   have h3z : (2 : Int) ≤ (s.size : Int) := by omega
   have h3n : 2 ≤ s.size := by omega
   clear hhx hbase hs hb16
   replace h1 := hide h1
   go_wp2
   go_meet
   exact ⟨rfl, hw0.symm⟩
  | false =>
   have hn : ∀ h : 1 < s.size, ¬ (s.extract 0 2).toList = [48, 120] := fun h g => by have := hhx.2 ⟨h, g⟩; cases this
   clear hhx hbase
   by_cases h1 : 1 < s.size
   ·have hn' := hn h1
    have h1z : (1 : Int) < (s.size : Int) := by omega
    have h3z : (2 : Int) ≤ (s.size : Int) := by omega
    have h3n : 2 ≤ s.size := by omega
    have hnb : ((s.extract 0 2).toList == [48, 120]) = false := beq_eq_false_iff_ne.2 hn'
    clear hn hs hb16
    replace h1 := hide h1
    go_wp2
    go_meet
    exact ⟨rfl, hw0.symm⟩
   ·have h1z : ¬ (1 : Int) < (s.size : Int) := by omega
    clear hn hb16
    go_wp2
    go_meet
    exact ⟨rfl, hw0.symm⟩
 case rest =>
 obtain ⟨rfl, hcx⟩ := hcut
 replace hcx := hcx.symm
 subst hcx
 clear hw0
 go_upto_if 22 with (fail)
 go_cut [0, 6] (fun tv bv wx => ∃ t : ByteArray, tv = .string t ∧ bv = .int .u64 (baseN hex : Int) ∧ Hid (r = if hex then Lib.toLowerA t.data.toList else t.data.toList) ∧ Hid (t.size ≤ s.size) ∧ Hid (NBox wx w.heap.size 0 0 ∧ NBox wx (w.heap.size + 1) 0 0 ∧ NBox wx (w.heap.size + 1 + 1) 0 0 ∧ Below w.heap.size w wx))
 case first =>
  cases hex with
  | true =>
   obtain ⟨h1, h2⟩ := hhx.1 rfl
   have h3z : (2 : Int) ≤ (s.size : Int) := by omega
   have h3n : 2 ≤ s.size := by omega
   clear hhx hbase hs hb16
   replace h1 := hide h1
   go_wp2
   go_meet
   exact ⟨s.extract 2 s.size, rfl, rfl, hide (by rw [ext_drop]; exact hr.out), hide (by rw [ByteArray.size_extract]; omega), hbx⟩
  | false =>
   clear hhx hbase hb16
   go_wp2
   go_meet
   exact ⟨s, rfl, rfl, hr, hide (Nat.le_refl _), hbx⟩
 case rest =>
  obtain ⟨t, rfl, rfl, hrt, hts, hbx⟩ := hcut
  obtain ⟨wx, rfl⟩ : ∃ wx : World, wx = wc := ⟨_, rfl⟩
  have hts' := hts.out
  have htl : t.size ≤ 9223372036854775807 := by omega
  clear hr hts hts' hs hhx hhex
  have hrl : r.length = t.size := by rw [hrt.out, Lib.size_eq]; cases hex <;> simp [Lib.toLowerA]
  have hdig := hide (fun (k : Nat) (hk : k < t.size) => show digR hex (t[k].toNat : Nat) = (if (digitsL hex).contains (r[k]'(by omega)) then (dvL hex (r[k]'(by omega)) : Int) else 99) from by
   have e : r[k]'(by omega) = (if hex then Lib.lowerB t[k] else t[k]) := by
    have ht : t.data.toList[k]'(by rw [← Lib.size_eq]; exact hk) = t[k] := rfl
    cases hex <;> simp [hrt.out, Lib.toLowerA, ht]
   rw [e]
   exact dig_eq hex t[k])
  replace hrl := hide hrl
  clear hrt hbase hsz
  go_wp2
  go_loopw [7, 8] (fun o i wr => ∃ k : Nat, k ≤ t.size ∧ i = .int .i64 k ∧ o = .bool (!(accV hex (r.take k)).2) ∧ Hid ((r.take k).all (fun c => (digitsL hex).contains c) = true) ∧ Hid (NBox wr w.heap.size 0 0 ∧ NBox wr (w.heap.size + 1) 0 0 ∧ NBox wr (w.heap.size + 1 + 1) (((accV hex (r.take k)).1 / 18446744073709551616 : Nat) : Int) (((accV hex (r.take k)).1 % 18446744073709551616 : Nat) : Int) ∧ Below w.heap.size w wr)) (fun _ i _ => t.size - (intOf i).toNat)
  case atStart => exact ⟨0, Nat.zero_le _, rfl, rfl, hide rfl, hide (by rw [show accV hex (r.take 0) = (0, true) from rfl]; simpa using hbx.out)⟩
  case round =>
   obtain ⟨k, hk, rfl, rfl, hall, hbr⟩ := hrel
   have hrl' := hrl.out
   by_cases hlt : k < t.size
   ·have hd := hdig.out k hlt
    have hlr : k < r.length := by omega
    have hltz : (k : Int) < (t.size : Int) := by omega
    have hD := hide (fun W => digit01_any hex (t[k].toNat : Nat) W (by omega) (by have := t[k].toNat_lt; omega))
    cases hcn : (digitsL hex).contains r[k] with
    | false =>
     rw [hcn] at hd
     simp only [Bool.false_eq_true, if_false] at hd
     rw [hd] at hD
     have hR : RES = .error 4 := by
      rw [hpar.out, if_neg (by intro h; rw [h] at hrl'; simp at hrl'; omega), if_neg (by rw [all_take_no hlr hcn]; simp)]
     subst hR
     obtain ⟨⟨l2, c20, c21, f20, f21⟩, ⟨l4, c40, c41, -, -⟩, -, hbw⟩ := hbr.out
     replace hbw := hide hbw
     clear hbr hd hdig hall hpar
     go_wp2_with (go_at_call 127; refine (hD.out _).mono ?_; rintro e w' ⟨rfl, rfl⟩)
     exact bodyPost_ret (v := parseV (.error 4)) (by simp [results, Tryz.results99, go_sem, c20, c21, parseV]) rfl ⟨rfl, (hbw.out.setCell (Nat.le_refl _) _).setCell (Nat.le_refl _) _⟩
    | true =>
     rw [hcn] at hd
     simp only [if_true] at hd
     rw [hd] at hD
     have hall' := hide (all_take_yes hlr hall.out hcn)
     have hacc := accV_succ hex r hlr
     obtain ⟨d, hdd⟩ : ∃ d, d = dvL hex r[k] := ⟨_, rfl⟩
     have hd16 : d < 16 := by
      have := (dvL_eq (hex := hex) (c := r[k]) (by simpa using hcn)).2
      omega
     rw [← hdd] at hD
     unfold stepV at hacc
     rw [← hdd] at hacc
     have hn := accV_lt hex (r.take k)
     obtain ⟨n, hne⟩ : ∃ n, n = (accV hex (r.take k)).1 := ⟨_, rfl⟩
     obtain ⟨ov, hov⟩ : ∃ ov, ov = !(accV hex (r.take k)).2 := ⟨_, rfl⟩
     rw [← hov]
     rw [← hne] at hbr hn hacc
     have hacc1 := hide (congrArg Prod.fst hacc)
     have hacc2 := hide (show (!(accV hex (r.take (k + 1))).2) = (ov || decide (two128 ≤ d + baseN hex * n)) from by
      rw [hacc, hov]
      simp only
      rw [Bool.not_and, Nat.mul_comm, Nat.add_comm]
      congr 1
      rw [Bool.eq_iff_iff]
      simp only [Bool.not_eq_true', decide_eq_true_eq, decide_eq_false_iff_not]
      omega)
     clear hacc hd hcn hdd hov hne hall hdig
     have hO := hide (fun W => of01_any (d : Int) W)
     have h99 : ¬ (d : Int) = 99 := by omega
     have h99b : ((d : Int) == 99) = false := beq_eq_false_iff_ne.2 h99
     have hsum := hide (fun j (W : World) => sum01_any ((d + j * n) % two128) n W (Nat.mod_lt _ (by decide)) hn)
     have hmul := hide (fun j => mulStep d n j ov hn)
     clear hn
     go_wp2_with (first
      | (go_at_call 127; refine (hD.out _).mono ?_; rintro e w' ⟨rfl, rfl⟩)
      | (go_at_call 128; refine (hO.out _).mono ?_; rintro e w1 ⟨rfl, hb1⟩))
     obtain ⟨n2, n4, n5, hbw⟩ := hbr.out
     have hal : Below w1.heap.size w1 (w1.alloc (.cells #[.int .u64 0, .int .u64 (d : Int)] 62)) := (Below.refl _ _).alloc (Nat.le_refl _) _
     have hba := hb1.trans (hal.mono hb1.size)
     have hn2 := hide (n2.below hba n2.lt)
     have hn4 := hide (n4.below hba n4.lt)
     have hn5 := hide (n5.below hba n5.lt)
     have hl5 := Nat.lt_of_lt_of_le n5.lt hb1.size
     have hl2 := Nat.lt_of_lt_of_le n2.lt hb1.size
     have hnx := hide (NBox.new w1 0 (d : Int) 62)
     have hbz := hide (hbw.trans (hba.mono hbw.size))
     have hzw1 := hb1.size
     obtain ⟨w3, hw3⟩ : ∃ w3, w3 = w1.alloc (.cells #[.int .u64 0, .int .u64 (d : Int)] 62) := ⟨_, rfl⟩
     rw [← hw3] at hn2 hn4 hn5 hnx hbz ⊢
     have hz3 : w1.heap.size < w3.heap.size := hnx.out.lt
     clear hw3 hal hba n2 n4 n5 hbw hb1 hbr hO hD h99b h99
     go_loopw [7, 11, 12] (fun o b i wr => ∃ j : Nat, j ≤ baseN hex ∧ i = .int .u64 (j : Int) ∧ o = .bool (ov || decide (two128 ≤ d + j * n)) ∧ (∃ bb : Bool, b = .bool bb) ∧ Hid (NBox wr w1.heap.size (((d + j * n) % two128 / 18446744073709551616 : Nat) : Int) (((d + j * n) % two128 % 18446744073709551616 : Nat) : Int)) ∧ Hid (NBox wr (w.heap.size + 1 + 1) ((n / 18446744073709551616 : Nat) : Int) ((n % 18446744073709551616 : Nat) : Int)) ∧ Hid (NBox wr (w.heap.size + 1) 0 0) ∧ Hid (NBox wr w.heap.size 0 0) ∧ Hid (Below w.heap.size w wr)) (fun _ _ i _ => 16 - (intOf i).toNat)
     case atStart =>
      refine ⟨0, Nat.zero_le _, rfl, ?_, ⟨false, rfl⟩, ?_, hn5, hn4, hn2, hbz⟩
      ·rw [decide_eq_false (by unfold two128; omega), Bool.or_false]
      ·have e : (d + 0 * n) % two128 = d := by unfold two128; omega
       rw [e]
       have e1 : d / 18446744073709551616 = 0 := by omega
       have e2 : d % 18446744073709551616 = d := by omega
       rw [e1, e2]; exact hnx
     case round =>
      clear hn5 hn4 hn2 hnx hbz
      obtain ⟨j, hj, rfl, rfl, ⟨bb, rfl⟩, mx, m5, m4, m2, hbq⟩ := hrel
      obtain ⟨w4, rfl⟩ : ∃ w4 : World, w4 = wr := ⟨_, rfl⟩
      by_cases hjl : j < baseN hex
      ·have hjz : (j : Int) < (baseN hex : Int) := by omega
       have hj16 : j < 16 := by omega
       have hS := hsum.out j w4
       have hM := hmul.out j
       rw [hM.1] at hS
       have hM2 := hM.2
       unfold n128 at hS
       generalize (d + j * n) % two128 = X0 at hS mx hM2
       generalize decide (two128 ≤ X0 + n) = big at hS hM2
       clear hM
       obtain ⟨X1, hX1⟩ : ∃ X1, X1 = (d + (j + 1) * n) % two128 := ⟨_, rfl⟩
       rw [← hX1] at hS
       replace hX1 := hide hX1
       obtain ⟨-, a0, a1, -, -⟩ := mx.out
       obtain ⟨-, b0, b1, -, -⟩ := m5.out
       have hsh := hide hS
       clear hS
       generalize hov : (ov || decide (two128 ≤ d + j * n)) = oj at hM2
       replace hov := hide hov
       have hfin := hide (fun (W : World) (hW : Below w4.heap.size w4 W) => show NBox ((W.setCell ⟨w1.heap.size, 0, none⟩ (.int .u64 ((X1 / 18446744073709551616 : Nat) : Int))).setCell ⟨w1.heap.size, 1, none⟩ (.int .u64 ((X1 % 18446744073709551616 : Nat) : Int))) w1.heap.size _ _ ∧ NBox ((W.setCell ⟨w1.heap.size, 0, none⟩ (.int .u64 ((X1 / 18446744073709551616 : Nat) : Int))).setCell ⟨w1.heap.size, 1, none⟩ (.int .u64 ((X1 % 18446744073709551616 : Nat) : Int))) (w.heap.size + 1 + 1) ((n / 18446744073709551616 : Nat) : Int) ((n % 18446744073709551616 : Nat) : Int) ∧ NBox ((W.setCell ⟨w1.heap.size, 0, none⟩ (.int .u64 ((X1 / 18446744073709551616 : Nat) : Int))).setCell ⟨w1.heap.size, 1, none⟩ (.int .u64 ((X1 % 18446744073709551616 : Nat) : Int))) (w.heap.size + 1) 0 0 ∧ NBox ((W.setCell ⟨w1.heap.size, 0, none⟩ (.int .u64 ((X1 / 18446744073709551616 : Nat) : Int))).setCell ⟨w1.heap.size, 1, none⟩ (.int .u64 ((X1 % 18446744073709551616 : Nat) : Int))) w.heap.size 0 0 ∧ Below w.heap.size w ((W.setCell ⟨w1.heap.size, 0, none⟩ (.int .u64 ((X1 / 18446744073709551616 : Nat) : Int))).setCell ⟨w1.heap.size, 1, none⟩ (.int .u64 ((X1 % 18446744073709551616 : Nat) : Int))) from
        ⟨(mx.out.below hW mx.out.lt).set _ _, ((m5.out.below hW m5.out.lt).far _ (by omega)).far _ (by omega), ((m4.out.below hW m4.out.lt).far _ (by omega)).far _ (by omega), ((m2.out.below hW m2.out.lt).far _ (by omega)).far _ (by omega), ((hbq.out.trans (hW.mono hbq.out.size)).setCell (p := ⟨w1.heap.size, 0, none⟩) (by show w.heap.size ≤ w1.heap.size; omega) _).setCell (p := ⟨w1.heap.size, 1, none⟩) (by show w.heap.size ≤ w1.heap.size; omega) _⟩)
       have hlm := mx.out.lt
       have hfm := hide (fun (W : World) (hW : Below w4.heap.size w4 W) => mx.out.below hW mx.out.lt)
       clear m5 m4 m2 mx hbq
       cases oj
       all_goals
        replace hM2 := hide hM2
        go_wp2_with (go_at_call 129; refine hsh.out.mono ?_; rintro e w5 ⟨rfl, hb5⟩; obtain ⟨q1, q2, q3, q4, q5⟩ := hfm.out _ hb5; have hF := hide (hfin.out _ hb5); clear hb5)
        go_roundw
        case rel => exact ⟨j + 1, by omega, by go_num, by rw [← hM2.out]; rfl, ⟨_, rfl⟩, hide (by rw [← hX1.out]; exact hF.out.1), hide hF.out.2.1, hide hF.out.2.2.1, hide hF.out.2.2.2.1, hide hF.out.2.2.2.2⟩
        case measure => simp [intOf]; omega
      ·obtain rfl : j = baseN hex := by omega
       have he : (d + baseN hex * n) % two128 = (accV hex (r.take (k + 1))).1 := by rw [hacc1.out, Nat.mul_comm, Nat.add_comm]
       rw [he] at mx
       rw [← hacc2.out]
       obtain ⟨xh, hxh⟩ : ∃ xh, xh = (((accV hex (r.take (k + 1))).1 / 18446744073709551616 : Nat) : Int) := ⟨_, rfl⟩
       obtain ⟨xl, hxl⟩ : ∃ xl, xl = (((accV hex (r.take (k + 1))).1 % 18446744073709551616 : Nat) : Int) := ⟨_, rfl⟩
       rw [← hxh, ← hxl] at mx
       obtain ⟨-, a0, a1, -, -⟩ := mx.out
       obtain ⟨l5, b0, b1, f50, f51⟩ := m5.out
       have hF := hide (⟨(m2.out.far _ (by omega)).far _ (by omega), (m4.out.far _ (by omega)).far _ (by omega), m5.out.set xh xl, (hbq.out.setCell (p := ⟨w.heap.size + 1 + 1, 0, none⟩) (by show w.heap.size ≤ w.heap.size + 1 + 1; omega) _).setCell (p := ⟨w.heap.size + 1 + 1, 1, none⟩) (by show w.heap.size ≤ w.heap.size + 1 + 1; omega) _⟩ : NBox ((w4.setCell ⟨w.heap.size + 1 + 1, 0, none⟩ (.int .u64 xh)).setCell ⟨w.heap.size + 1 + 1, 1, none⟩ (.int .u64 xl)) w.heap.size 0 0 ∧ NBox ((w4.setCell ⟨w.heap.size + 1 + 1, 0, none⟩ (.int .u64 xh)).setCell ⟨w.heap.size + 1 + 1, 1, none⟩ (.int .u64 xl)) (w.heap.size + 1) 0 0 ∧ NBox ((w4.setCell ⟨w.heap.size + 1 + 1, 0, none⟩ (.int .u64 xh)).setCell ⟨w.heap.size + 1 + 1, 1, none⟩ (.int .u64 xl)) (w.heap.size + 1 + 1) xh xl ∧ Below w.heap.size w ((w4.setCell ⟨w.heap.size + 1 + 1, 0, none⟩ (.int .u64 xh)).setCell ⟨w.heap.size + 1 + 1, 1, none⟩ (.int .u64 xl)))
       replace hxh := hide hxh
       replace hxl := hide hxl
       clear m5 m4 m2 mx hbq
       go_wp2
       go_roundw
       case rel => exact ⟨k + 1, by omega, by go_num, rfl, hall', hide (by rw [← hxh.out, ← hxl.out]; exact hF.out)⟩
       case measure => simp [intOf]; omega
   ·obtain rfl : k = t.size := by omega
    obtain ⟨⟨l2, c20, c21, f20, f21⟩, ⟨l4, c40, c41, -, -⟩, n5, hbw⟩ := hbr.out
    have htk : r.take t.size = r := List.take_of_length_le (by omega)
    rw [htk] at n5 hall ⊢
    rw [hall.out] at hpar
    obtain ⟨-, c50, c51, -, -⟩ := n5
    replace hbw := hide hbw
    clear hbr hdig hb16
    by_cases h0 : t.size = 0
    ·have hR : RES = .error 4 := by rw [hpar.out, if_pos (List.eq_nil_of_length_eq_zero (by omega))]
     subst hR
     have h0z : (t.size : Int) = 0 := by omega
     replace h0 := hide h0
     clear hpar
     go_wp2
     exact bodyPost_ret (v := parseV (.error 4)) (by simp [results, Tryz.results99, go_sem, c20, c21, parseV]) rfl ⟨rfl, (hbw.out.setCell (Nat.le_refl _) _).setCell (Nat.le_refl _) _⟩
    ·have h0z : ¬ (t.size : Int) = 0 := by omega
     have hpar2 := hpar.out
     rw [if_neg (fun h => h0 (by rw [h] at hrl'; simpa using hrl'.symm)), if_pos rfl] at hpar2
     replace h0 := hide h0
     clear hpar
     cases hv : (accV hex r).2 with
     | true =>
      rw [hv, if_pos rfl] at hpar2
      subst hpar2
      go_wp2
      exact bodyPost_ret (v := parseV (.ok (accV hex r).1)) (by simp [results, Tryz.results99, go_sem, c20, c21, parseV]) rfl ⟨rfl, (hbw.out.setCell (Nat.le_refl _) _).setCell (Nat.le_refl _) _⟩
     | false =>
      rw [hv, if_neg (by simp)] at hpar2
      subst hpar2
      go_wp2
      exact bodyPost_ret (v := parseV (.error 5)) (by simp [results, Tryz.results99, go_sem, c20, c21, parseV]) rfl ⟨rfl, (hbw.out.setCell (Nat.le_refl _) _).setCell (Nat.le_refl _) _⟩
end Go.Proofs.YtbjokgnnklcbcaaGreatDoor

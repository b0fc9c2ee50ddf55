import Derived.Test.YtbjokgnnklcbcaaGreatDoorTpb03
import Derived.Test.YtbjokgnnklcbcaaGreatDoorTpb07
import Derived.Test.YtbjokgnnklcbcaaGreatDoorTpb02
import Derived.Shelf.Strings.SlTrimAscii
import Derived.Lib.OthersKept
import Derived.Deep.DeepCutAuto
import Derived.Deep.RegionHeld3
import Derived.IntWalk
set_option linter.all false
/-! Boxes of numbers. -/
namespace Go.Proofs.YtbjokgnnklcbcaaGreatDoor
open Go.RowKit
def parseV : Except Int Nat → Value
 | .ok v => .tuple #[.agg #[.int .u64 ((v / 18446744073709551616 : Nat) : Int), .int .u64 ((v % 18446744073709551616 : Nat) : Int)], .int .i64 0]
 | .error n => .tuple #[.agg #[.int .u64 0, .int .u64 0], .int .i64 n]
/-- A box of a number's two halves. -/
structure NBox (W : World) (g : Nat) (x y : Int) : Prop where
 lt : g < W.heap.size
 c0 : W.cell? ⟨g, 0, none⟩ = some (.int .u64 x)
 c1 : W.cell? ⟨g, 1, none⟩ = some (.int .u64 y)
 f0 : W.frozen? ⟨g, 0, none⟩ = false
 f1 : W.frozen? ⟨g, 1, none⟩ = false
theorem NBox.below {W W' : World} {g B : Nat} {x y : Int} (h : NBox W g x y) (hb : Below B W W') (hg : g < B) : NBox W' g x y :=
 ⟨Nat.lt_of_lt_of_le h.lt hb.size, (hb.cell (p := ⟨g, 0, none⟩) hg).trans h.c0, (hb.cell (p := ⟨g, 1, none⟩) hg).trans h.c1, (hb.frozen (p := ⟨g, 0, none⟩) hg).trans h.f0, (hb.frozen (p := ⟨g, 1, none⟩) hg).trans h.f1⟩
theorem NBox.new (W : World) (x y : Int) (t : TypeId) : NBox (W.alloc (.cells #[.int .u64 x, .int .u64 y] t)) W.heap.size x y := by
 obtain ⟨wa, hwa, hsa, hba, hca, hfa⟩ := box1 W #[.int .u64 x, .int .u64 y] t
 rw [hwa]
 exact ⟨by omega, hca 0, hca 1, hfa 0, hfa 1⟩
theorem NBox.alloc {W : World} {g : Nat} {x y : Int} (h : NBox W g x y) (o : Obj) : NBox (W.alloc o) g x y := h.below ((Below.refl _ _).alloc (Nat.le_refl _) o) h.lt
theorem setCell_size (W : World) (a : Addr) (v : Value) : (W.setCell a v).heap.size = W.heap.size := by simp [World.setCell]
theorem NBox.far {W : World} {g k i : Nat} {x y : Int} (h : NBox W g x y) (v : Value) (hk : k ≠ g) : NBox (W.setCell ⟨k, i, none⟩ v) g x y := by
 have hh : (W.setCell ⟨k, i, none⟩ v).heap[g]? = W.heap[g]? := Below.heap_setCell _ _ _ _ (fun e => hk e.symm)
 refine ⟨by rw [setCell_size]; exact h.lt, ?_, ?_, ?_, ?_⟩
 ·rw [← h.c0]; unfold World.cell?; rw [hh]
 ·rw [← h.c1]; unfold World.cell?; rw [hh]
 ·rw [← h.f0]; unfold World.frozen?; rw [hh]
 ·rw [← h.f1]; unfold World.frozen?; rw [hh]
theorem NBox.set {W : World} {g : Nat} {x y : Int} (h : NBox W g x y) (x' y' : Int) : NBox ((W.setCell ⟨g, 0, none⟩ (.int .u64 x')).setCell ⟨g, 1, none⟩ (.int .u64 y')) g x' y' := by
 obtain ⟨hl, c0, c1, f0, f1⟩ := h
 refine ⟨by rw [setCell_size, setCell_size]; exact hl, ?_, ?_, ?_, ?_⟩ <;> simp [go_sem, c0, c1, f0, f1]
end Go.Proofs.YtbjokgnnklcbcaaGreatDoor
/-! Layer 1: Parse. -/
namespace Go.Proofs.YtbjokgnnklcbcaaGreatDoor
open Go.RowKit
theorem held8 {n : Nat} {wz W : World} (h : Below n wz W) : Below n wz W ∧ ∀ b o, b < n → W.cell? ⟨b, o, none⟩ = wz.cell? ⟨b, o, none⟩ := ⟨h, (bcell' h).1⟩
theorem below_set2 {B g : Nat} {a w : World} (h : Below B a w) (hg : B ≤ g) (v0 v1 : Value) : Below B a ((w.setCell ⟨g, 0, none⟩ v0).setCell ⟨g, 1, none⟩ v1) := (h.setCell (p := ⟨g, 0, none⟩) hg _).setCell (p := ⟨g, 1, none⟩) hg _
theorem trim_dig (hex : Bool) (t : ByteArray) (w : World) (ht : t.size ≤ 9223372036854775807) : Calls Tryz.prog 111 #[.string t, .string ⟨(digitsL hex).toArray⟩] w fun e w' => e = .returned (.string ⟨(Lib.trimS t.data.toList (digitsL hex)).toArray⟩) ∧ Below w.heap.size w w' := by
 have h := Any.strings_Trim_laid Tryz.lays160 (by kernel_rfl) t ⟨(digitsL hex).toArray⟩ w ht (by cases hex <;> decide) (by
  intro j b hb
  have hm : b ∈ digitsL hex := List.mem_of_getElem? hb
  have : ∀ c ∈ digitsL hex, c.toNat < 128 := by cases hex <;> decide
  exact this b hm)
 exact h
set_option maxRecDepth 100000 in
set_option maxHeartbeats 8000000 in
theorem lparse_any (s : ByteArray) (w : World) (hs : s.size ≤ 2000000) (hascii : ∀ c ∈ s.data.toList, c.toNat < 128) :
  Calls Tryz.prog 91 #[.string s] w fun e w' => e = .returned (parseV (parseR s.data.toList)) ∧ Below w.heap.size w w' := by
 obtain ⟨wa, hwa, hsa, hba, hca, hfa⟩ := box1 w #[.int .u64 0, .int .u64 0] 62
 have hC := fun W => Tryz.strings_CutPrefix s ⟨#[48, 120]⟩ W
 obtain ⟨hex, hhex⟩ : ∃ hex, hex = Lib.hasPrefix s.data.toList [48, 120] := ⟨_, rfl⟩
 obtain ⟨r, hr⟩ : ∃ r, r = (if hex then Lib.toLowerA (s.data.toList.drop 2) else s.data.toList) := ⟨_, rfl⟩
 have hpar : parseR s.data.toList = (if r = [] then .error 4 else if r.all (fun c => (digitsL hex).contains c) then (if (accV hex r).2 then .ok (accV hex r).1 else .error 5) else .error 4) := by rw [hr, hhex]; rfl
 obtain ⟨RES, hRES⟩ : ∃ RES, RES = parseR s.data.toList := ⟨_, rfl⟩
 rw [← hRES]
 rw [hpar] at hRES
 replace hRES := hide hRES
 have hC' : Hid (∀ W, Calls Tryz.prog 109 #[.string s, .string ⟨#[48, 120]⟩] W fun e w' => e = .returned (.tuple #[.string ⟨(Lib.trimPrefix s.data.toList [48, 120]).toArray⟩, .bool hex]) ∧ W = w') := by rw [hhex]; exact hide fun W => (hC W).mono fun _ _ h => ⟨h.1, h.2.symm⟩
 have hrl : r.length ≤ 2000000 := by
  have hsz := Lib.size_eq s
  rw [hr]
  cases hex
  ·simp only [Bool.false_eq_true, if_false]; omega
  ·simp only [if_true, Lib.toLowerA, List.length_map, List.length_drop]; omega
 clear hpar hC
 have hgo := hide (fun W (hW : Below wa.heap.size wa W) => hba.trans (hW.mono hba.size))
 replace hsa := hide hsa
 replace hhex := hide hhex
 replace hr := hide hr
 have z0 := hca 0
 have z1 := hca 1
 have f0 := hfa 0
 have f1 := hfa 1
 have hla : w.heap.size < wa.heap.size := by have := hsa.out; omega
 simp at z0 z1
 clear hca hfa hba
 go_enter Tryz.func91, Tryz.ntmps91
 go_upto_if 19 with (go_at_call 109; refine (hC'.out _).mono ?_; rintro e w' ⟨rfl, rfl⟩)
 go_cut [0, 4, 5] (fun tv dv bv wx => ∃ t : ByteArray, tv = .string t ∧ dv = .string ⟨(digitsL hex).toArray⟩ ∧ bv = .int .u64 (baseN hex : Int) ∧ Hid (t.data.toList = r) ∧ Hid (Below wa.heap.size wa wx))
 case first =>
  cases hex with
  | false =>
   go_wp2
   go_meet
   exact ⟨s, rfl, rfl, rfl, hide hr.out.symm, hide (Below.refl _ _)⟩
  | true =>
   have ht : Lib.trimPrefix s.data.toList [48, 120] = s.data.toList.drop 2 := by unfold Lib.trimPrefix; rw [← hhex.out]; rfl
   have hL0 := (Tryz.strings_ToLower_ascii ⟨(s.data.toList.drop 2).toArray⟩ wa (by
    show (s.data.toList.drop 2).toArray.size ≤ _
    have := Lib.size_eq s
    simp only [List.size_toArray, List.length_drop]; omega) (fun j b hb => hascii b (List.mem_of_mem_drop (List.mem_of_getElem? hb))))
   have hL : Hid (Calls Tryz.prog 110 #[.string ⟨(Lib.trimPrefix s.data.toList [48, 120]).toArray⟩] wa fun e w' => e = .returned (.string ⟨(Lib.toLowerA (s.data.toList.drop 2)).toArray⟩) ∧ Below wa.heap.size wa w') := by rw [ht]; exact hide hL0
   clear hL0 ht
   go_wp2_with (go_at_call 110; refine hL.out.mono ?_; rintro e w4 ⟨rfl, hb4⟩)
   go_meet
   exact ⟨_, rfl, rfl, rfl, hide hr.out.symm, hide hb4⟩
 case rest =>
  obtain ⟨t, rfl, rfl, rfl, htr, hb1⟩ := hcut
  obtain ⟨w1, rfl⟩ : ∃ w1 : World, w1 = wc := ⟨_, rfl⟩
  have htz : t.size ≤ 2000000 := by rw [Lib.size_eq, htr.out]; exact hrl
  have hT := hide (trim_dig hex t w1 (by omega))
  rw [htr.out] at hT
  have hb1z := hb1.out.size
  have hl1 := Nat.lt_of_lt_of_le hla hb1z
  have kk := bcell' hb1.out
  have z0' := (kk.1 _ 0 hla).trans z0
  have z1' := (kk.1 _ 1 hla).trans z1
  have f0' := (kk.2 _ 0 hla).trans f0
  have f1' := (kk.2 _ 1 hla).trans f1
  clear kk z0 z1 f0 f1
  have hbad : ∀ W n, RES = .error n → Below wa.heap.size wa W → parseV RES = .tuple #[.agg #[.int .u64 0, .int .u64 0], .int .i64 n] ∧ ∀ v v', Below w.heap.size w ((W.setCell ⟨w.heap.size, 0, none⟩ v).setCell ⟨w.heap.size, 1, none⟩ v') := fun W n h hW => ⟨by rw [h]; rfl, fun v v' => ((hgo.out W hW).setCell (p := ⟨w.heap.size, 0, none⟩) (Nat.le_refl _) _).setCell (p := ⟨w.heap.size, 1, none⟩) (Nat.le_refl _) _⟩
  replace hbad := hide hbad
  by_cases hr0 : r = []
  ·have hem : t.toList.isEmpty = true := by rw [Lib.toList_data, htr.out, hr0]; rfl
   have hR : RES = .error 4 := by rw [hRES.out, if_pos hr0]
   replace hR := hide hR
   have hB := hbad.out w1 4 hR.out hb1.out
   replace hb1 := hide hb1
   go_wp2
   exact bodyPost_ret (v := .tuple #[.agg #[.int .u64 0, .int .u64 0], .int .i64 4]) (by simp [results, Tryz.results91, go_sem, z0', z1']) rfl ⟨by rw [hB.1], hB.2 _ _⟩
  ·have hem : t.toList.isEmpty = false := by rw [Lib.toList_data, htr.out]; cases r with | nil => exact absurd rfl hr0 | cons _ _ => rfl
   have hnil := trimS_nil r (digitsL hex)
   cases hall : r.all (fun c => (digitsL hex).contains c) with
   | false =>
    have hR : RES = .error 4 := by rw [hRES.out, if_neg hr0, hall, if_neg (by simp)]
    have hB := hide (fun W => hbad.out W 4 hR)
    have hTn : ¬ (⟨(Lib.trimS r (digitsL hex)).toArray⟩ : ByteArray).toList = [] := by
     rw [Lib.toList_data]
     intro h
     have := hnil.1 (by simpa using h)
     rw [hall] at this; cases this
    have hTb : ((⟨(Lib.trimS r (digitsL hex)).toArray⟩ : ByteArray).toList == []) = false := beq_eq_false_iff_ne.2 hTn
    have hTe : (⟨(Lib.trimS r (digitsL hex)).toArray⟩ : ByteArray).toList.isEmpty = false := by
     cases h : (⟨(Lib.trimS r (digitsL hex)).toArray⟩ : ByteArray).toList.isEmpty with
     | false => rfl
     | true => exact absurd (List.isEmpty_iff.1 h) hTn
    clear hbad hnil hRES hR
    generalize (⟨(Lib.trimS r (digitsL hex)).toArray⟩ : ByteArray) = tt at hT hTn hTb hTe
    go_wp2_with (go_at_call 111; refine hT.out.mono ?_; rintro e w2 ⟨rfl, hb2⟩; have kb2 := bcell' hb2; have q2 := Nat.lt_of_lt_of_le hl1 hb2.size; have k0 := (kb2.1 _ 0 hl1).trans z0'; have k1 := (kb2.1 _ 1 hl1).trans z1'; have g0 := (kb2.2 _ 0 hl1).trans f0'; have g1 := (kb2.2 _ 1 hl1).trans f1')
    have hB2 := hB.out w2 (hb1.out.trans (hb2.mono hb1z))
    exact bodyPost_ret (v := .tuple #[.agg #[.int .u64 0, .int .u64 0], .int .i64 4]) (by simp [results, Tryz.results91, go_sem, k0, k1]) rfl ⟨by rw [hB2.1], hB2.2 _ _⟩
   | true =>
    have hTn : (⟨(Lib.trimS r (digitsL hex)).toArray⟩ : ByteArray).toList = [] := by
     rw [Lib.toList_data, hnil.2 hall]
    have hTe : (⟨(Lib.trimS r (digitsL hex)).toArray⟩ : ByteArray).toList.isEmpty = true := by rw [hTn]; rfl
    have hTb : ((⟨(Lib.trimS r (digitsL hex)).toArray⟩ : ByteArray).toList == []) = true := by rw [hTn]; rfl
    have hR : RES = if (accV hex r).2 then .ok (accV hex r).1 else .error 5 := by rw [hRES.out, if_neg hr0, hall, if_pos rfl]
    replace hR := hide hR
    clear hbad hnil hRES
    generalize (⟨(Lib.trimS r (digitsL hex)).toArray⟩ : ByteArray) = tt at hT hTn hTb hTe
    go_wp2_with (go_at_call 111; refine hT.out.mono ?_; rintro e w2 ⟨rfl, hb2⟩; have kb2 := bcell' hb2; have q2 := Nat.lt_of_lt_of_le hl1 hb2.size; have k0 := (kb2.1 _ 0 hl1).trans z0'; have k1 := (kb2.1 _ 1 hl1).trans z1'; have g0 := (kb2.2 _ 0 hl1).trans f0'; have g1 := (kb2.2 _ 1 hl1).trans f1')
    have hq := hide (show NBox w2 w.heap.size 0 0 from ⟨q2, k0, k1, g0, g1⟩)
    have hbw := hide (hgo.out w2 (hb1.out.trans (hb2.mono hb1z)))
    have hdg := hide (fun (k : Nat) (hk : k < t.size) => show (t[k].toNat < 128) ∧ ∃ d : Nat, Lib.indexByte (digitsL hex) t[k] = (d : Int) ∧ d < 16 ∧ (accV hex (r.take (k + 1))) = ((((accV hex (r.take k)).1 * baseN hex + d) % two128), (accV hex (r.take k)).2 && decide ((accV hex (r.take k)).1 * baseN hex + d < two128)) from by
     have hlr : k < r.length := by rw [← htr.out, ← Lib.size_eq]; exact hk
     have e : r[k] = t[k] := by
      have : r[k]? = some t[k] := by rw [← htr.out, List.getElem?_eq_getElem (by rw [← Lib.size_eq]; exact hk)]; rfl
      rw [List.getElem?_eq_getElem hlr] at this
      injection this
     have hin : (digitsL hex).contains r[k] = true := (List.all_eq_true.1 hall) _ (List.getElem_mem hlr)
     have hmem : r[k] ∈ digitsL hex := by simpa using hin
     have hd := dvL_eq hmem
     have h128 : ∀ c ∈ digitsL hex, c.toNat < 128 := by cases hex <;> decide
     have hb16 : baseN hex ≤ 16 := by cases hex <;> decide
     refine ⟨by rw [← e]; exact h128 _ hmem, dvL hex r[k], by rw [← e]; exact hd.1, by omega, ?_⟩
     rw [accV_succ hex r hlr]
     rfl)
    have hb16 : baseN hex ≤ 16 := by cases hex <;> decide
    have hrt : r.take t.size = r := List.take_of_length_le (by rw [← htr.out, ← Lib.size_eq]; exact Nat.le_refl _)
    have htl : t.size ≤ 9223372036854775807 := by omega
    clear kb2 hT hTn hTb hTe hem hr hhex z0' z1' f0' f1' k0 k1 g0 g1 hb1 hb2 hb1z hl1 hrl hall hC' hgo
    replace hrt := hide hrt
    go_loopw [9] (fun f wr => ∃ k : Nat, k ≤ t.size ∧ f = .bool (accV hex (r.take k)).2 ∧ Hid (wr.heap[w2.heap.size + 1]? = some (.stringIter t k)) ∧ Hid (NBox wr w.heap.size 0 0) ∧ Hid (NBox wr w2.heap.size (((accV hex (r.take k)).1 / 18446744073709551616 : Nat) : Int) (((accV hex (r.take k)).1 % 18446744073709551616 : Nat) : Int)) ∧ Hid (Below w.heap.size w wr)) (fun _ wr => t.size - wr.iterPos (w2.heap.size + 1))
    case atStart =>
     have hbn := NBox.new w2 0 0 62
     refine ⟨0, Nat.zero_le _, rfl, ?_, ?_, ?_, ?_⟩
     ·have := World.iter_heap (w2.alloc (.cells #[.int .u64 0, .int .u64 0] 62)) t 0
      exact hide (by simpa using this)
     ·exact hide ((hq.out.alloc _).alloc _)
     ·rw [show accV hex (r.take 0) = (0, true) from rfl]
      exact hide (by have := hbn.alloc (.stringIter t 0); simp only [Nat.zero_div, Nat.zero_mod]; exact this)
     ·exact hide ((hbw.out.alloc hbw.out.size _).alloc (by have := hbw.out.size; simp; omega) _)
    case round =>
     clear hq hbw
     obtain ⟨k, hk, rfl, hit, hq, hnb, hbw⟩ := hrel
     by_cases hlt : k < t.size
     ·obtain ⟨hasc, d, hdi, hd16, hacc⟩ := hdg.out k hlt
      have hnx : ∀ ty, (Instr.next (.pointer (some ⟨w2.heap.size + 1, 0, none⟩)) true ty).run Tryz.prog wr = _ := fun ty => Lib.run_next_ascii_at wr (w2.heap.size + 1) t k ty hit.out hlt hasc
      have hit2 := hide (Lib.iterAt_heap wr (w2.heap.size + 1) t k (k + 1) hit.out)
      obtain ⟨wz, hwz⟩ : ∃ wz, wr.iterAt (w2.heap.size + 1) t (k + 1) = wz := ⟨_, rfl⟩
      have hbk : Below (w2.heap.size + 1) wr wz := by rw [← hwz]; exact Lib.below_iterAt (Below.refl _ _) (Nat.le_refl _) _ _
      rw [hwz] at hnx hit2
      have hq2 := hide (hq.out.below hbk (by have := hq.out.lt; omega))
      have hnb2 := hide (hnb.out.below hbk (by omega))
      have hbz := hide (hbw.out.trans (hbk.mono (by omega)))
      have hKlt : w2.heap.size + 1 < wz.heap.size := (Array.getElem?_eq_some_iff.1 hit2.out).1
      have hn := accV_lt hex (r.take k)
      obtain ⟨n, hne⟩ : ∃ n, n = (accV hex (r.take k)).1 := ⟨_, rfl⟩
      obtain ⟨ok, hok⟩ : ∃ ok, ok = (accV hex (r.take k)).2 := ⟨_, rfl⟩
      rw [← hne, ← hok] at hacc
      rw [← hne] at hn hnb2
      rw [← hok]
      have hT0 := fun W => times_any (n / 18446744073709551616) (n % 18446744073709551616) (baseN hex) d (by unfold two128 at hn; omega) (by omega) hb16 (by omega) W
      have hnv : nextV (n / 18446744073709551616) (n % 18446744073709551616) (baseN hex) d = n * baseN hex + d := by unfold nextV; congr 2; omega
      rw [hnv] at hT0
      obtain ⟨zh, hzh⟩ : ∃ zh, zh = (((n * baseN hex + d) / 18446744073709551616 % 18446744073709551616 : Nat) : Int) := ⟨_, rfl⟩
      obtain ⟨zl, hzl⟩ : ∃ zl, zl = (((n * baseN hex + d) % 18446744073709551616 : Nat) : Int) := ⟨_, rfl⟩
      obtain ⟨fit, hfit⟩ : ∃ fit, fit = decide (n * baseN hex + d < two128) := ⟨_, rfl⟩
      rw [← hzh, ← hzl] at hT0
      have hA1 := hide (show (((accV hex (r.take (k + 1))).1 / 18446744073709551616 : Nat) : Int) = zh from by rw [hacc, hzh]; show (((n * baseN hex + d) % two128 / 18446744073709551616 : Nat) : Int) = _; unfold two128; omega)
      have hA2 := hide (show (((accV hex (r.take (k + 1))).1 % 18446744073709551616 : Nat) : Int) = zl from by rw [hacc, hzl]; show (((n * baseN hex + d) % two128 % 18446744073709551616 : Nat) : Int) = _; unfold two128; omega)
      have hA3 := hide (show (accV hex (r.take (k + 1))).2 = (ok && fit) from by rw [hacc, hfit])
      have hT1 : ∀ W, Calls Tryz.prog 112 #[.agg #[.int .u64 ((n / 18446744073709551616 : Nat) : Int), .int .u64 ((n % 18446744073709551616 : Nat) : Int)], .int .u64 (baseN hex : Int), .int .u64 (d : Int)] W fun e w' => e = .returned (.tuple #[.agg #[.int .u64 zh, .int .u64 zl], .bool fit]) ∧ Below W.heap.size W w' := fun W => by rw [hfit]; exact hT0 W
      clear hT0 hnv hzh hzl hfit hacc hne hok hn
      generalize ((n / 18446744073709551616 : Nat) : Int) = nh at hT1 hnb2
      generalize ((n % 18446744073709551616 : Nat) : Int) = nl at hT1 hnb2
      have hTm := hide (fun (W : World) (hW : Below wz.heap.size wz W) => (hT1 W).mono fun e w' h => (⟨h.1, hW.trans (h.2.mono hW.size), h.2⟩ : _ ∧ Below wz.heap.size wz w' ∧ Below W.heap.size W w'))
      have hIR := hide (fun (W : World) => show Calls Tryz.prog 113 #[.string ⟨(digitsL hex).toArray⟩, .int .i32 ((t[k].toNat : Nat) : Int)] W fun e w' => e = .returned (.int .i64 (d : Int)) ∧ w' = W from by
       have := Tryz.strings_IndexRune_ascii ⟨(digitsL hex).toArray⟩ ((t[k].toNat : Nat) : Int) W (by omega) (by omega)
       rw [show ((t[k].toNat : Nat) : Int).toNat.toUInt8 = t[k] from by simp] at this
       rw [← hdi]; exact this)
      have hwr : IntKind.u64.wrap (d : Int) = d := IntWalk.u64_in _ (by omega)
      obtain ⟨hgl, n0, n1, e0, e1⟩ := hnb2.out
      clear hT1 hdg hdi hbk hbw hnb hq
      go_upto_region 12 with fail
      go_cut [12, 13] (fun sp bv wx => ∃ g, sp = .pointer (some ⟨g, 0, none⟩) ∧ bv = .bool fit ∧ wz.heap.size ≤ g ∧ Hid (NBox wx g zh zl) ∧ Hid (Below wz.heap.size wz wx))
      case first =>
       go_region_held3 (fun w' => Below wz.heap.size wz w' ∧ ∀ b o, b < wz.heap.size → w'.cell? ⟨b, o, none⟩ = wz.cell? ⟨b, o, none⟩) (first | exact held8 (Below.refl _ _).drew | exact held8 ((Below.refl _ _).drew.alloc (Nat.le_refl _) _) | exact held8 hb3 | exact held8 (hb3.alloc hb3.size _) | exact held8 (below_set2 (hb3.alloc hb3.size _) hb3.size _ _) | exact held8 (below_set2 hb3 (Nat.le_refl _) _ _))
        (first | (go_at_call 113; refine (hIR.out _).mono ?_; rintro e w' ⟨rfl, rfl⟩) | (go_at_call 112; refine (hTm.out _ (by first | exact (Below.refl _ _).drew | exact (Below.refl _ _).drew.alloc (Nat.le_refl _) _)).mono ?_; rintro e w3 ⟨rfl, hb3, hb4⟩; have kb4 := bcell hb4))
       all_goals go_wp2
       all_goals go_meet
       all_goals first
        | exact ⟨_, rfl, rfl, hb3.size, hide (NBox.new w3 zh zl _), hide (hb3.alloc hb3.size _)⟩
        | exact ⟨_, rfl, rfl, Nat.le_refl _, hide (((NBox.new wz.drew 0 0 62).below hb4 (NBox.new wz.drew 0 0 62).lt).set zh zl), hide (below_set2 hb3 (Nat.le_refl _) _ _)⟩
      case rest =>
       obtain ⟨g, rfl, rfl, hgz, hng, hbx⟩ := hcut
       obtain ⟨wx, rfl⟩ : ∃ wx : World, wx = wc := ⟨_, rfl⟩
       obtain ⟨hgl2, a0, a1, -, -⟩ := hng.out
       have m5 := hnb2.out.below hbx.out hgl
       obtain ⟨l5, b0, b1, f50, f51⟩ := hnb2.out.below hbx.out hgl
       have hit3 := hide ((hbx.out.block _ hKlt).trans hit2.out)
       have hl0 := hq2.out.lt
       have hF := hide (⟨by rw [Below.heap_setCell _ _ _ _ (show w2.heap.size + 1 ≠ w2.heap.size by omega), Below.heap_setCell _ _ _ _ (show w2.heap.size + 1 ≠ w2.heap.size by omega)]; exact hit3.out, ((hq2.out.below hbx.out hl0).far _ (by omega)).far _ (by omega), m5.set zh zl, below_set2 (hbz.out.trans (hbx.out.mono hbz.out.size)) (Nat.le_of_lt q2) _ _⟩ : ((wx.setCell ⟨w2.heap.size, 0, none⟩ (.int .u64 zh)).setCell ⟨w2.heap.size, 1, none⟩ (.int .u64 zl)).heap[w2.heap.size + 1]? = some (.stringIter t (k + 1)) ∧ NBox ((wx.setCell ⟨w2.heap.size, 0, none⟩ (.int .u64 zh)).setCell ⟨w2.heap.size, 1, none⟩ (.int .u64 zl)) w.heap.size 0 0 ∧ NBox ((wx.setCell ⟨w2.heap.size, 0, none⟩ (.int .u64 zh)).setCell ⟨w2.heap.size, 1, none⟩ (.int .u64 zl)) w2.heap.size zh zl ∧ Below w.heap.size w ((wx.setCell ⟨w2.heap.size, 0, none⟩ (.int .u64 zh)).setCell ⟨w2.heap.size, 1, none⟩ (.int .u64 zl)))
       clear m5 hnb2 hq2 hbz hng hbx hit2 hit3 n0 n1 e0 e1 hnx hTm hIR hwr
       cases ok
       all_goals
        replace hA3 := hide hA3.out
        go_wp2
        go_roundw
        case rel => exact ⟨k + 1, by omega, by rw [hA3.out]; rfl, hide hF.out.1, hide hF.out.2.1, hide (by rw [hA1.out, hA2.out]; exact hF.out.2.2.1), hide hF.out.2.2.2⟩
        case measure =>
         simp only [World.iterPos, hF.out.1, hit.out]
         omega
     ·obtain rfl : k = t.size := by omega
      rw [hrt.out] at hnb ⊢
      have hnx : ∀ ty, (Instr.next (.pointer (some ⟨w2.heap.size + 1, 0, none⟩)) true ty).run Tryz.prog wr = _ := fun ty => Lib.run_next_end_at wr (w2.heap.size + 1) t t.size ty hit.out hlt
      obtain ⟨-, k0, k1, g0, g1⟩ := hq.out
      obtain ⟨-, n0, n1, -, -⟩ := hnb.out
      have hR' := hR.out
      clear hq hnb hit hdg
      cases hv : (accV hex r).2 with
      | true =>
       rw [hv, if_pos rfl] at hR'
       subst hR'
       go_wp2
       exact bodyPost_ret (v := parseV (.ok (accV hex r).1)) (by simp [results, Tryz.results91, go_sem, k0, k1, parseV]) rfl ⟨rfl, below_set2 hbw.out (Nat.le_refl _) _ _⟩
      | false =>
       rw [hv, if_neg (by simp)] at hR'
       subst hR'
       go_wp2
       exact bodyPost_ret (v := parseV (.error 5)) (by simp [results, Tryz.results91, go_sem, k0, k1, parseV]) rfl ⟨rfl, below_set2 hbw.out (Nat.le_refl _) _ _⟩
end Go.Proofs.YtbjokgnnklcbcaaGreatDoor

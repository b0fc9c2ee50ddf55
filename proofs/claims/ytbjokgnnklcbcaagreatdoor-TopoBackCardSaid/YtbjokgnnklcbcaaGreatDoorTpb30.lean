import Derived.Test.YtbjokgnnklcbcaaGreatDoorTpb29
import Derived.Test.YtbjokgnnklcbcaaGreatDoorTpb15
import Derived.Deep.DeepCutAuto
set_option linter.all false
/-! Layer 3: Lex. -/
namespace Go.Proofs.YtbjokgnnklcbcaaGreatDoor
open Go.RowKit
attribute [local go_sem ↓] app_eq
attribute [local go_sem] run_panic_iface
/-- What the call of Lex hands back. -/
def LexE (l : List UInt8) (e : Ending) (w' : World) : Prop :=
 match lexR l with
 | .error (n, k) => e = .returned (.tuple #[.slice none 0 0, faultV n (l.take k)])
 | .ok r => ∃ A cap, e = .returned (.tuple #[.slice A r.length cap, noFault]) ∧ Sl 6 rTk w' w'.heap.size A r
/-- The same, and that the slice has room. -/
def LexC (l : List UInt8) (e : Ending) (w' : World) : Prop :=
 match lexR l with
 | .error (n, k) => e = .returned (.tuple #[.slice none 0 0, faultV n (l.take k)])
 | .ok r => ∃ A cap, e = .returned (.tuple #[.slice A r.length cap, noFault]) ∧ Sl 6 rTk w' w'.heap.size A r ∧ r.length ≤ cap ∧ cap ≤ maxLen
theorem LexC.e {l : List UInt8} {e : Ending} {w' : World} (h : LexC l e w') : LexE l e w' := by
 unfold LexC at h
 unfold LexE
 split at h
 ·exact h
 ·obtain ⟨A, cap, h1, h2, -⟩ := h
  exact ⟨A, cap, h1, h2⟩
theorem TkS.slc {w : World} {base : Nat} {v : Value} {l : List Tk} (h : TkS w base v l) : ∃ A cap, v = .slice A l.length cap ∧ Sl 6 rTk w w.heap.size A l ∧ l.length ≤ cap ∧ cap ≤ maxLen := by
 obtain ⟨A, cap, hv, hS⟩ := h.sl
 refine ⟨A, cap, hv, hS, ?_⟩
 rcases h.2 with ⟨e, hz⟩ | ⟨g, cap', cur, e, _, _, hc, hm, _⟩
 ·rw [hv] at e
  injection e with e1 e2 e3
  exact ⟨by omega, by rw [e3]; exact Nat.zero_le _⟩
 ·rw [hv] at e
  injection e with e1 e2 e3
  exact ⟨by omega, by rw [e3]; exact hm⟩
def preT (acc : List Tk) : Except (Int × Nat) (List Tk) → Except (Int × Nat) (List Tk)
 | .error x => .error x
 | .ok r => .ok (acc ++ r)
theorem preT_nil (x : Except (Int × Nat) (List Tk)) : preT [] x = x := by cases x <;> rfl
theorem preT_cons (acc : List Tk) (t : Tk) (x : Except (Int × Nat) (List Tk)) : preT acc (preT [t] x) = preT (acc ++ [t]) x := by cases x <;> simp [preT]
theorem lex0 (w : World) (s : ByteArray) : LexB ((((w.alloc (.cells #[.string s] 9)).alloc (.cells #[.slice none 0 0] 45)).alloc (.cells #[.int .i64 0, .int .i64 0, .int .i64 0] 32)).alloc (.cells #[.int .i64 0] 3)) w.heap.size s 0 (.slice none 0 0) ∧ Below w.heap.size w ((((w.alloc (.cells #[.string s] 9)).alloc (.cells #[.slice none 0 0] 45)).alloc (.cells #[.int .i64 0, .int .i64 0, .int .i64 0] 32)).alloc (.cells #[.int .i64 0] 3)) := by
 obtain ⟨wa, hwa, hsa, hba, hca, hfa⟩ := box1 w #[.string s] 9
 obtain ⟨wb, hwb, hsb, hbb, hcb, hfb⟩ := box1 wa #[.slice none 0 0] 45
 obtain ⟨wc, hwc, hsc, hbc, hcc, hfc⟩ := box1 wb #[.int .i64 0, .int .i64 0, .int .i64 0] 32
 obtain ⟨wd, hwd, hsd, hbd, hcd, hfd⟩ := box1 wc #[.int .i64 0] 3
 rw [hwa, hwb, hwc, hwd]
 have e1 : wa.heap.size = w.heap.size + 1 := hsa
 have e2 : wb.heap.size = w.heap.size + 2 := by omega
 have e3 : wc.heap.size = w.heap.size + 3 := by omega
 have hbbc := hbb.trans (hbc.mono (by omega))
 have hbbd := hbbc.trans (hbd.mono (by omega))
 have hbcd := hbc.trans (hbd.mono (by omega))
 have k1 := bcell' hbbd
 have k2 := bcell' hbcd
 have k3 := bcell' hbd
 rw [e1] at hcb hfb
 rw [e2] at hcc hfc
 rw [e3] at hcd hfd
 exact ⟨⟨by omega, (k1.1 _ 0 (by omega)).trans (hca 0), (k2.1 _ 0 (by omega)).trans (hcb 0), (k3.1 _ 0 (by omega)).trans (hcc 0), (k3.1 _ 1 (by omega)).trans (hcc 1), (k3.1 _ 2 (by omega)).trans (hcc 2), hcd 0, (k2.2 _ 0 (by omega)).trans (hfb 0), (k3.2 _ 0 (by omega)).trans (hfc 0), (k3.2 _ 1 (by omega)).trans (hfc 1), (k3.2 _ 2 (by omega)).trans (hfc 2), hfd 0⟩, hba.trans (hbbd.mono (by omega))⟩
theorem oneR_pos {l : List UInt8} {x : Nat × List UInt8 × Nat × Nat} (h : oneR l = .ok x) : 1 ≤ x.2.1.length ∧ x.2.1.length ≤ l.length := by
 have hwl := wlenL_le l
 have hlen : (l.take (wlenL l)).length = wlenL l := by rw [List.length_take]; omega
 have hmk : markL l ≠ [] → 1 ≤ (markL l).length ∧ (markL l).length ≤ l.length := by
  intro hne
  refine ⟨List.length_pos_iff.2 hne, ?_⟩
  have : ∀ ms : List (List UInt8), (markF ms l).length ≤ l.length := by
   intro ms
   induction ms with
   | nil =>
    unfold markF
    split
    ·rw [List.length_take]; omega
    ·simp
   | cons m r ih =>
    unfold markF
    split
    ·rename_i hp
     exact (List.isPrefixOf_iff_prefix.1 hp).length_le
    ·exact ih
  exact this longMarks
 unfold oneR at h
 simp only at h
 split at h
 ·split at h
  ·cases h
  ·rename_i hm
   injection h with h
   rw [← h]
   exact hmk hm
 ·rename_i hw
  have hw1 : 1 ≤ wlenL l := by rw [← hlen]; exact List.length_pos_iff.2 hw
  split at h
  ·split at h
   ·cases h
   ·injection h with h
    rw [← h]
    simp only [hlen]
    omega
  ·split at h
   ·cases h
   ·injection h with h
    rw [← h]
    simp only [hlen]
    omega
theorem lexL_succ (fu k : Nat) (l : List UInt8) : lexL (fu + 1) k l = if l.drop (gap false l) = [] then .ok [⟨0, [], 0, 0, k + gap false l⟩] else match oneR (l.drop (gap false l)) with
   | .error e => .error (e, k + gap false l)
   | .ok x => preT [⟨x.1, x.2.1, x.2.2.1, x.2.2.2, k + gap false l⟩] (lexL fu (k + gap false l + x.2.1.length) ((l.drop (gap false l)).drop x.2.1.length)) := by
 rw [lexL]
 split
 ·rfl
 ·cases oneR (l.drop (gap false l)) with
  | error e => rfl
  | ok x =>
   simp only
   generalize lexL fu (k + gap false l + x.2.1.length) ((l.drop (gap false l)).drop x.2.1.length) = y
   cases y <;> rfl
theorem lexL_end {fu k : Nat} {l : List UInt8} (h : l.drop (gap false l) = []) : lexL (fu + 1) k l = .ok [⟨0, [], 0, 0, k + gap false l⟩] := by
 rw [lexL_succ]
 exact if_pos h
theorem lexL_err {fu k : Nat} {l : List UInt8} {n : Int} (h : l.drop (gap false l) ≠ []) (he : oneR (l.drop (gap false l)) = .error n) : lexL (fu + 1) k l = .error (n, k + gap false l) := by
 rw [lexL_succ, if_neg h, he]
theorem lexL_ok {fu k : Nat} {l : List UInt8} {x : Nat × List UInt8 × Nat × Nat} (h : l.drop (gap false l) ≠ []) (he : oneR (l.drop (gap false l)) = .ok x) : lexL (fu + 1) k l = preT [⟨x.1, x.2.1, x.2.2.1, x.2.2.2, k + gap false l⟩] (lexL fu (k + gap false l + x.2.1.length) ((l.drop (gap false l)).drop x.2.1.length)) := by
 rw [lexL_succ, if_neg h, he]
theorem valX_err {w : Nat} {b : Bool} {l : List UInt8} {n : Int} (h : valR w b l = .error n) : n = 4 ∨ n = 5 := by
 unfold valR at h
 cases hp : parseR l with
 | error e =>
  rw [hp] at h
  injection h with h
  rw [← h]; exact parseR_err hp
 | ok m =>
  rw [hp] at h
  unfold valX at h
  simp only at h
  split at h
  ·injection h with h; omega
  ·cases h
theorem oneR_err {l : List UInt8} {n : Int} (h : oneR l = .error n) : n ≠ 0 := by
 unfold oneR at h
 simp only at h
 split at h
 ·split at h
  ·injection h with h; omega
  ·cases h
 ·split at h
  ·split at h
   ·rename_i e hn
    injection h with h
    subst h
    unfold numR at hn
    simp only at hn
    split at hn
    ·split at hn
     ·split at hn
      ·injection hn with hn; omega
      ·have := valX_err hn; omega
     ·injection hn with hn; omega
    ·have := valX_err hn; omega
   ·cases h
  ·split at h
   ·injection h with h; omega
   ·cases h
theorem LexB.setF {W : World} {b k : Nat} {s : ByteArray} {v : Value} (h : LexB W b s k v) : LexB (((W.setCell ⟨b + 2, 0, none⟩ (.int .i64 0)).setCell ⟨b + 2, 1, none⟩ (.int .i64 0)).setCell ⟨b + 2, 2, none⟩ (.int .i64 0)) b s k v := by
 obtain ⟨lt, c0, c1, e0, e1, e2, c3, f1, g0, g1, g2, f3⟩ := h
 refine ⟨by rw [setCell_size, setCell_size, setCell_size]; exact lt, ?_, ?_, ?_, ?_, ?_, ?_, ?_, ?_, ?_, ?_, ?_⟩ <;> simp [go_sem, c0, c1, e0, e1, e2, c3, f1, g0, g1, g2, f3]
set_option maxRecDepth 100000 in
set_option maxHeartbeats 8000000 in
theorem lexc_any (s : ByteArray) (w : World) (hs : s.size < 4611686018427387904) (hV : VarS w) :
  Calls Tryz.prog 14 #[.string s] w fun e w' => LexC s.data.toList e w' ∧ Below w.heap.size w w' := by
 have hmf : ∀ (fn : Fn) (first cap : Array Value) (w : World), (Instr.makeFunc fn first cap).run Tryz.prog w = .ok (.func fn first cap) w := fun _ _ _ _ => rfl
 obtain ⟨hL, hB⟩ := lex0 w s
 have hsl : s.size ≤ 9223372036854775807 := by omega
 by_cases hbig : 65536 < s.size
 ·have hbz : (65536 : Int) < (s.size : Int) := by omega
  have hR : lexR s.data.toList = .error (3, 0) := by unfold lexR; rw [if_pos (by rw [← Lib.size_eq]; exact hbig)]
  replace hbig := hide hbig
  replace hL := hide hL
  replace hB := hide hB
  go_enter_defers Tryz.func14, Tryz.ntmps14
  go_wp2
  replace hR := hide hR
  refine leaves_cons (f := 42) (args := #[.pointer (some ⟨w.heap.size, 0, none⟩), .pointer (some ⟨w.heap.size + 3, 0, none⟩), .pointer (some ⟨w.heap.size + 1, 0, none⟩), .pointer (some ⟨w.heap.size + 2, 0, none⟩)]) (by simp) (by simp [go_sem]) ?_
  refine (lexd_errno w.heap.size 0 s (.slice none 0 0) 3 [] _ hL.out (Nat.zero_le _) hs (by first | decide | assumption)).mono ?_
  rintro e u' w'' ⟨rfl, rfl, w9, hb9, rfl⟩
  obtain ⟨lt9, c09, c19, e09, e19, e29, c39, f19, g09, g19, g29, f39⟩ := (hL.out).below hb9 (hL.out).lt
  have hfin := hide ((hB.out).trans (hb9.mono (hB.out).size))
  obtain ⟨pl, hpl⟩ : ∃ pl, pl = (((placeR (s.data.toList.take 0)).1 : Nat) : Int) := ⟨_, rfl⟩
  obtain ⟨pc, hpc⟩ : ∃ pc, pc = (((placeR (s.data.toList.take 0)).2 : Nat) : Int) := ⟨_, rfl⟩
  rw [← hpl, ← hpc]
  replace hpl := hide hpl
  replace hpc := hide hpc
  simp only [Leaves, settle]
  simp [Leaves, settle, results, Tryz.results14, go_sem, c09, c19, e09, e19, e29]
  refine ⟨?_, pl_below3 (hfin.out.setCell (p := ⟨w.heap.size + 1, 0, none⟩) (by show w.heap.size ≤ w.heap.size + 1; omega) _) (by omega) _ _ _⟩
  unfold LexC
  rw [hR.out, hpl.out, hpc.out]
  rfl
 ·have hbz : ¬ (65536 : Int) < (s.size : Int) := by omega
  have hR0 : lexR s.data.toList = preT [] (lexL (s.size + 1) 0 (s.data.toList.drop 0)) := by
   unfold lexR
   rw [if_neg (by rw [← Lib.size_eq]; exact hbig), preT_nil, ← Lib.size_eq, List.drop_zero]
  have hs6 : s.size ≤ 65536 := by omega
  replace hL := hide hL
  replace hB := hide hB
  replace hR0 := hide hR0
  clear hbig
  go_enter_defers Tryz.func14, Tryz.ntmps14
  go_wp2
  go_loopw [] (fun wr => ∃ (k : Nat) (acc : List Tk) (v : Value) (fuel : Nat), k ≤ s.size ∧ Hid (LexB wr w.heap.size s k v) ∧ Hid (TkS wr (w.heap.size + 4) v acc) ∧ acc.length ≤ k ∧ s.size < fuel + k ∧ Hid (lexR s.data.toList = preT acc (lexL fuel k (s.data.toList.drop k))) ∧ Hid (Below w.heap.size w wr)) (fun wr => s.size - kOf w.heap.size wr)
  case atStart => exact ⟨0, [], _, s.size + 1, Nat.zero_le _, hL, hide (TkS.nil_ _ _), Nat.zero_le _, by omega, hR0, hB⟩
  case round =>
   clear hL hB hR0
   obtain ⟨k, acc, v, fuel, hk, hL, hT, hak, hfu, hR, hB⟩ := hrel
   obtain ⟨fu, rfl⟩ : ∃ fu, fuel = fu + 1 := ⟨fuel - 1, by omega⟩
   have hVr := hide (hV.below hB.out (Nat.le_refl _))
   have hkw := hide hL.out.kOf
   obtain ⟨lt, c0, c1, e0, e1, e2, c3, f1, g0, g1, g2, f3⟩ := hL.out
   obtain ⟨gK, hgK⟩ : ∃ gK, gK = gap false (s.data.toList.drop k) := ⟨_, rfl⟩
   have hgl := gap_le false (s.data.toList.drop k)
   rw [← hgK, List.length_drop, ← Lib.size_eq] at hgl
   have hBt := hide (fun W => (between_any (s.extract k s.size) W (by rw [ByteArray.size_extract]; unfold maxLen; omega)).mono fun e w' h => (⟨h.1, by rw [h.2]; exact Below.refl _ _⟩ : _ ∧ Below W.heap.size W w'))
   have hga : ((gapAt (s.extract k s.size) 0 : Nat) : Int) = (gK : Int) := by
    unfold gapAt
    rw [ext_drop, List.drop_zero, hgK, Nat.zero_add]
   rw [hga] at hBt
   have hkz : (k : Int) ≤ (s.size : Int) := by omega
   have hk0 : (0 : Int) ≤ (k : Int) := by omega
   obtain ⟨K, hK⟩ : ∃ K, K = k + gK := ⟨_, rfl⟩
   have hsum : IntKind.i64.wrap ((k : Int) + (gK : Int)) = (K : Int) := by rw [IntWalk.i64_in _ (by omega), hK]; omega
   have hKs : K ≤ s.size := by omega
   have hkK : k ≤ K := by omega
   replace hgK := hide hgK
   replace hK := hide hK
   have lt0 : w.heap.size < wr.heap.size := by omega
   have lt1 : w.heap.size + 1 < wr.heap.size := by omega
   have lt2 : w.heap.size + 2 < wr.heap.size := by omega
   have hg := gcell wr
   go_wp2_with fail
   refine wp_region_quiet_tail 6 (by kernel_rfl) (by kernel_rfl) ?_
   simp only [List.take_succ_cons, List.take_zero, List.drop_succ_cons, List.drop_zero]
   repeat (any_goals (first | go_big_quiet_step ((go_at_call 43; with_reducible exact Calls.regrown_of (hBt.out _))) | quiet_step ((go_at_call 43; with_reducible exact Calls.regrown_of (hBt.out _)))))
   refine wpQuiet_nil ?_
   intro w1 hw1
   have hL1 := hL.out.below hw1 lt
   have hT1 := hT.out.below hw1 (Nat.le_refl _)
   have hV1 := hVr.out.below hw1 (Nat.le_refl _)
   have hB1 := hB.out.trans (hw1.mono hB.out.size)
   obtain ⟨lt', y0, y1, ye0, ye1, ye2, y3, yf1, yg0, yg1, yg2, yf3⟩ := hL1
   have hL2 := hide (show LexB (w1.setCell ⟨w.heap.size + 1 + 1 + 1, 0, none⟩ (.int .i64 (K : Int))) w.heap.size s K v from (hL.out.below hw1 lt).setK K)
   have hT2 := hide (show TkS (w1.setCell ⟨w.heap.size + 1 + 1 + 1, 0, none⟩ (.int .i64 (K : Int))) (w.heap.size + 4) v acc from hT1.set (by omega))
   have hB2 := hide (show Below w.heap.size w (w1.setCell ⟨w.heap.size + 1 + 1 + 1, 0, none⟩ (.int .i64 (K : Int))) from hB1.setCell (p := ⟨w.heap.size + 1 + 1 + 1, 0, none⟩) (by show w.heap.size ≤ w.heap.size + 1 + 1 + 1; omega) _)
   clear hL hT hB hVr lt c0 c1 e0 e1 e2 c3 f1 g0 g1 g2 f3 lt0 lt1 lt2 hg hT1 hB1 hsum hga hBt hw1
   go_upto_region 6 with (fail)
   clear lt' y0 y1 ye0 ye1 ye2 y3 yf1 yg0 yg1 yg2 yf3
   have hV2 := hide (hV.below hB2.out (Nat.le_refl _))
   generalize w1.setCell ⟨w.heap.size + 1 + 1 + 1, 0, none⟩ (.int .i64 (K : Int)) = w2 at hL2 hT2 hB2 hV2 ⊢
   clear hV1
   obtain ⟨A, cap, rfl⟩ := hT2.out.form
   obtain ⟨lt, c0, c1, e0, e1, e2, c3, f1, g0, g1, g2, f3⟩ := hL2.out
   have hdk : (s.data.toList.drop k).drop gK = s.data.toList.drop K := by rw [List.drop_drop, hK.out]
   have hbig4 : w.heap.size + 4 ≤ w2.heap.size := by omega
   by_cases hKe : K = s.size
   ·subst hKe
    have hnil : (s.data.toList.drop k).drop (gap false (s.data.toList.drop k)) = [] := by
     rw [← hgK.out, hdk]; exact List.drop_eq_nil_of_le (by rw [← Lib.size_eq]; omega)
    have hR1 := hide (show lexR s.data.toList = .ok (acc ++ [⟨0, [], 0, 0, s.size⟩]) from by rw [hR.out, lexL_end hnil, ← hgK.out, ← hK.out]; rfl)
    obtain ⟨v', w3, hrun, hT3, hb3, -⟩ := append_t ⟨0, [], 0, 0, s.size⟩ hT2.out hbig4 (by unfold bigI; omega)
    rw [show (tkV ⟨0, [], 0, 0, s.size⟩).toArray = #[.int .u8 0, .string ⟨#[]⟩, .int .i64 0, .int .u64 0, .int .u64 0, .int .i64 (s.size : Int)] from by simp [tkV, tkC]] at hrun
    have hL3 := hL2.out.below hb3 (by omega)
    obtain ⟨lt', y0, y1, ye0, ye1, ye2, y3, yf1, yg0, yg1, yg2, yf3⟩ := hL3
    obtain ⟨A', cap', hv'⟩ := hT3.form
    have hv2 : v' = .slice A' (acc.length + 1) cap' := by rw [hv', List.length_append]; rfl
    clear hv'
    subst hv2
    have hLF := hide (show LexB ((((w3.setCell ⟨w.heap.size + 1, 0, none⟩ (.slice A' (acc.length + 1) cap')).setCell ⟨w.heap.size + 1 + 1, 0, none⟩ (.int .i64 0)).setCell ⟨w.heap.size + 1 + 1, 1, none⟩ (.int .i64 0)).setCell ⟨w.heap.size + 1 + 1, 2, none⟩ (.int .i64 0)) w.heap.size s s.size (.slice A' (acc.length + 1) cap') from ((hL2.out.below hb3 (by omega)).setV _).setF)
    have hTF := hide (show TkS ((((w3.setCell ⟨w.heap.size + 1, 0, none⟩ (.slice A' (acc.length + 1) cap')).setCell ⟨w.heap.size + 1 + 1, 0, none⟩ (.int .i64 0)).setCell ⟨w.heap.size + 1 + 1, 1, none⟩ (.int .i64 0)).setCell ⟨w.heap.size + 1 + 1, 2, none⟩ (.int .i64 0)) (w.heap.size + 4) (.slice A' (acc.length + 1) cap') (acc ++ [⟨0, [], 0, 0, s.size⟩]) from (((hT3.set (k := w.heap.size + 1) (by omega)).set (k := w.heap.size + 1 + 1) (by omega)).set (k := w.heap.size + 1 + 1) (by omega)).set (k := w.heap.size + 1 + 1) (by omega))
    have hBF := hide (show Below w.heap.size w ((((w3.setCell ⟨w.heap.size + 1, 0, none⟩ (.slice A' (acc.length + 1) cap')).setCell ⟨w.heap.size + 1 + 1, 0, none⟩ (.int .i64 0)).setCell ⟨w.heap.size + 1 + 1, 1, none⟩ (.int .i64 0)).setCell ⟨w.heap.size + 1 + 1, 2, none⟩ (.int .i64 0)) from pl_below3 ((hB2.out.trans (hb3.mono (by omega))).setCell (p := ⟨w.heap.size + 1, 0, none⟩) (by show w.heap.size ≤ w.heap.size + 1; omega) _) (show w.heap.size ≤ w.heap.size + 1 + 1 by omega) _ _ _)
    clear hT3 hb3 hdk hgK hK hnil hR hL2 hT2 hB2 hV2
    go_wp2
    refine leaves_cons (f := 42) (args := #[.pointer (some ⟨w.heap.size, 0, none⟩), .pointer (some ⟨w.heap.size + 3, 0, none⟩), .pointer (some ⟨w.heap.size + 1, 0, none⟩), .pointer (some ⟨w.heap.size + 2, 0, none⟩)]) (by simp) (by simp [go_sem]) ?_
    refine (lexd_idle _ _ _ _ _).mono ?_
    rintro e u' w'' ⟨rfl, rfl, rfl⟩
    generalize ((((w3.setCell ⟨w.heap.size + 1, 0, none⟩ (.slice A' (acc.length + 1) cap')).setCell ⟨w.heap.size + 1 + 1, 0, none⟩ (.int .i64 0)).setCell ⟨w.heap.size + 1 + 1, 1, none⟩ (.int .i64 0)).setCell ⟨w.heap.size + 1 + 1, 2, none⟩ (.int .i64 0)) = w4 at hLF hTF hBF ⊢
    obtain ⟨-, x0, x1, xe0, xe1, xe2, -, -, -, -, -, -⟩ := hLF.out
    simp [Leaves, settle, results, Tryz.results14, go_sem, x1, xe0, xe1, xe2]
    refine ⟨?_, hBF.out⟩
    obtain ⟨A2, cap2, hv3, hS, hcp⟩ := hTF.out.slc
    unfold LexC
    rw [hR1.out]
    refine ⟨A2, cap2, ?_, hS, hcp⟩
    rw [← hv3]
    rfl
   ·have hKlt : K < s.size := by omega
    have hnz : ¬ (K : Int) = (s.size : Int) := by omega
    have hKz : (K : Int) ≤ (s.size : Int) := by omega
    have hK0 : (0 : Int) ≤ (K : Int) := by omega
    have hne : (s.data.toList.drop k).drop (gap false (s.data.toList.drop k)) ≠ [] := by
     rw [← hgK.out, hdk]
     intro h
     have := congrArg List.length h
     rw [List.length_drop, ← Lib.size_eq] at this
     simp at this; omega
    have hO := one_any (s.extract K s.size) w2 (by rw [ByteArray.size_extract]; omega) (by rw [ByteArray.size_extract]; omega) hV2.out
    rw [ext_drop] at hO
    have hdk2 : (s.data.toList.drop k).drop (gap false (s.data.toList.drop k)) = s.data.toList.drop K := by rw [← hgK.out]; exact hdk
    obtain ⟨R, hRe⟩ : ∃ R, R = oneR (s.data.toList.drop K) := ⟨_, rfl⟩
    rw [← hRe] at hO
    rw [← hdk2] at hRe
    cases R with
    | error n =>
     have hn0 : n ≠ 0 := oneR_err hRe.symm
     replace hR := hide (show lexR s.data.toList = .error (n, K) from by rw [hR.out, lexL_err hne hRe.symm, ← hgK.out, ← hK.out]; rfl)
     replace hO := hide (show Calls Tryz.prog _ _ w2 fun e w' => e = perr n ∧ Below w2.heap.size w2 w' from hO)
     replace hRe := hide hRe
     replace hn0 := hide hn0
     clear hne hdk hdk2 hgK hK hV2
     go_wp2_with (go_at_call 44; refine hO.out.mono ?_; rintro e w5 ⟨rfl, hb5⟩)
     replace hn0 := hn0.out
     refine leaves_cons (f := 42) (args := #[.pointer (some ⟨w.heap.size, 0, none⟩), .pointer (some ⟨w.heap.size + 3, 0, none⟩), .pointer (some ⟨w.heap.size + 1, 0, none⟩), .pointer (some ⟨w.heap.size + 2, 0, none⟩)]) (by simp) (by simp [go_sem]) ?_
     refine (lexd_errno w.heap.size K s (.slice A acc.length cap) n [] _ (hL2.out.below hb5 lt) hKs hs (by first | decide | assumption)).mono ?_
     rintro e u' w'' ⟨rfl, rfl, w9, hb9, rfl⟩
     obtain ⟨lt9, c09, c19, e09, e19, e29, c39, f19, g09, g19, g29, f39⟩ := ((hL2.out.below hb5 lt)).below hb9 ((hL2.out.below hb5 lt)).lt
     have hfin := hide (((hB2.out.trans (hb5.mono hB2.out.size))).trans (hb9.mono ((hB2.out.trans (hb5.mono hB2.out.size))).size))
     obtain ⟨pl, hpl⟩ : ∃ pl, pl = (((placeR (s.data.toList.take K)).1 : Nat) : Int) := ⟨_, rfl⟩
     obtain ⟨pc, hpc⟩ : ∃ pc, pc = (((placeR (s.data.toList.take K)).2 : Nat) : Int) := ⟨_, rfl⟩
     rw [← hpl, ← hpc]
     replace hpl := hide hpl
     replace hpc := hide hpc
     simp only [Leaves, settle]
     simp [Leaves, settle, results, Tryz.results14, go_sem, c09, c19, e09, e19, e29]
     refine ⟨?_, pl_below3 (hfin.out.setCell (p := ⟨w.heap.size + 1, 0, none⟩) (by show w.heap.size ≤ w.heap.size + 1; omega) _) (by omega) _ _ _⟩
     unfold LexC
     rw [hR.out, hpl.out, hpc.out]
     rfl
    | ok x =>
     obtain ⟨kd, sl, wd, n⟩ := x
     have hpos := oneR_pos hRe.symm
     rw [hdk2, List.length_drop, ← Lib.size_eq] at hpos
     simp only at hpos
     obtain ⟨sB, hsB⟩ : ∃ sB : ByteArray, sB = ⟨sl.toArray⟩ := ⟨_, rfl⟩
     have hsz : sB.size = sl.length := by rw [hsB, Lib.size_eq]
     replace hR := hide (show lexR s.data.toList = preT (acc ++ [⟨kd, sl, wd, n, K⟩]) (lexL fu (K + sl.length) (s.data.toList.drop (K + sl.length))) from by rw [hR.out, lexL_ok hne hRe.symm, preT_cons, hdk2, ← hgK.out, ← hK.out, List.drop_drop])
     have hO' := hide (show Calls Tryz.prog 44 #[.string (s.extract K s.size)] w2 fun e w' => e = .returned (.agg #[.int .u8 (kd : Int), .string sB, .int .i64 (wd : Int), .int .u64 ((n / 18446744073709551616 : Nat) : Int), .int .u64 ((n % 18446744073709551616 : Nat) : Int), .int .i64 0]) ∧ Below w2.heap.size w2 w' from by rw [hsB]; exact hO)
     have htv : (tkV ⟨kd, sl, wd, n, K⟩).toArray = #[.int .u8 (kd : Int), .string sB, .int .i64 (wd : Int), .int .u64 ((n / 18446744073709551616 : Nat) : Int), .int .u64 ((n % 18446744073709551616 : Nat) : Int), .int .i64 (K : Int)] := by rw [hsB]; rfl
     clear hne hdk hdk2 hgK hK hV2 hO hRe hsB
     generalize ((n / 18446744073709551616 : Nat) : Int) = nh at hO' htv
     generalize ((n % 18446744073709551616 : Nat) : Int) = nl at hO' htv
     generalize hkd : (kd : Int) = kz at hO' htv
     generalize hwd : (wd : Int) = wz at hO' htv
     replace htv := hide htv
     replace hkd := hide hkd
     replace hwd := hide hwd
     replace hsz := hide hsz
     go_upto_region 9 with (go_at_call 44; refine hO'.out.mono ?_; rintro e w5 ⟨rfl, hb5⟩)
     have hL5 := hL2.out.below hb5 lt
     have hT5 := hT2.out.below hb5 (Nat.le_refl _)
     have hB5 := hB2.out.trans (hb5.mono hB2.out.size)
     have hz5 := hb5.size
     obtain ⟨w6, hw6, hs6', hb6, hc6, hf6⟩ := box1 w5 #[.int .u8 kz, .string sB, .int .i64 wz, .int .u64 nh, .int .u64 nl, .int .i64 (K : Int)] 64
     have hL6 := hL5.below hb6 hL5.lt
     have hT6 := hT5.below hb6 (Nat.le_refl _)
     have hB6 := hB5.trans (hb6.mono hB5.size)
     obtain ⟨v', w7, hrun, hT7, hb7, hkeep⟩ := append_t ⟨kd, sl, wd, n, K⟩ hT6 (by omega) (by unfold bigI; omega)
     rw [htv.out] at hrun
     have hown : some w5.heap.size ≠ (Value.slice A acc.length cap).ownBlock := fun h => by
      have := (World.ownsRow.lt hT5 _ h.symm).2
      omega
     have h57 : w7.heap[w5.heap.size]? = w6.heap[w5.heap.size]? := hkeep _ (by omega) hown
     have t1 : w7.cell? ⟨w5.heap.size, 1, none⟩ = some (.string sB) := (World.cell?_of_block (a := ⟨w5.heap.size, 1, none⟩) h57).trans (hc6 1)
     have b0 := hc6 0
     have b1 := hc6 1
     have b2 := hc6 2
     have b3 := hc6 3
     have b4 := hc6 4
     have b5 := hc6 5
     simp at b0 b1 b2 b3 b4 b5
     have hL7 := hL6.below hb7 (by omega)
     obtain ⟨A', cap', hv'⟩ := hT7.form
     have hv2 : v' = .slice A' (acc.length + 1) cap' := by rw [hv', List.length_append]; rfl
     clear hv'
     subst hv2
     have hzz : (((K + sl.length : Nat)) : Int) = (K : Int) + (sB.size : Int) := by rw [hsz.out]; omega
     have hLF := hide (show LexB ((w7.setCell ⟨w.heap.size + 1, 0, none⟩ (.slice A' (acc.length + 1) cap')).setCell ⟨w.heap.size + 1 + 1 + 1, 0, none⟩ (.int .i64 ((K : Int) + (sB.size : Int)))) w.heap.size s (K + sl.length) (.slice A' (acc.length + 1) cap') from by rw [← hzz]; exact (hL7.setV _).setK _)
     have hTF := hide (show TkS ((w7.setCell ⟨w.heap.size + 1, 0, none⟩ (.slice A' (acc.length + 1) cap')).setCell ⟨w.heap.size + 1 + 1 + 1, 0, none⟩ (.int .i64 ((K : Int) + (sB.size : Int)))) (w.heap.size + 4) (.slice A' (acc.length + 1) cap') (acc ++ [⟨kd, sl, wd, n, K⟩]) from (hT7.set (k := w.heap.size + 1) (by omega)).set (k := w.heap.size + 1 + 1 + 1) (by omega))
     have hBF := hide (show Below w.heap.size w ((w7.setCell ⟨w.heap.size + 1, 0, none⟩ (.slice A' (acc.length + 1) cap')).setCell ⟨w.heap.size + 1 + 1 + 1, 0, none⟩ (.int .i64 ((K : Int) + (sB.size : Int)))) from ((hB6.trans (hb7.mono (by omega))).setCell (p := ⟨w.heap.size + 1, 0, none⟩) (by show w.heap.size ≤ w.heap.size + 1; omega) _).setCell (p := ⟨w.heap.size + 1 + 1 + 1, 0, none⟩) (by show w.heap.size ≤ w.heap.size + 1 + 1 + 1; omega) _)
     obtain ⟨lt6, q0, q1, qe0, qe1, qe2, q3, qf1, qg0, qg1, qg2, qf3⟩ := hL6
     obtain ⟨lt7, r0, r1, re0, re1, re2, r3, rf1, rg0, rg1, rg2, rf3⟩ := hL7
     have hsbz : (K : Int) + (sB.size : Int) ≤ 65536 := by rw [hsz.out]; omega
     have h5a : w.heap.size + 1 < w5.heap.size := by omega
     have h5b : w.heap.size + 3 < w5.heap.size := by omega
     have h56 : w5.heap.size < w6.heap.size := by omega
     have h57' : w5.heap.size < w7.heap.size := Nat.lt_of_lt_of_le h56 hb7.size
     have hms := hide (show s.size - kOf w.heap.size ((w7.setCell ⟨w.heap.size + 1, 0, none⟩ (.slice A' (acc.length + 1) cap')).setCell ⟨w.heap.size + 1 + 1 + 1, 0, none⟩ (.int .i64 ((K : Int) + (sB.size : Int)))) < s.size - kOf w.heap.size wr from by rw [hLF.out.kOf, hkw.out]; omega)
     obtain ⟨-, p0, p1, -, -, -, p3, -, -, -, -, -⟩ := hL5
     replace hs6' := hide hs6'
     clear hzz hown hkeep h57 hT5 hB5 hT6 hB6 hb6 hb7 hT7 hb5 hc6 hf6
     go_wp2
     go_roundw
     case rel => exact ⟨K + sl.length, acc ++ [⟨kd, sl, wd, n, K⟩], _, fu, by omega, hLF, hTF, by rw [List.length_append]; simp; omega, by omega, hR, hBF⟩
     case measure => exact hms.out
end Go.Proofs.YtbjokgnnklcbcaaGreatDoor

import Derived.Test.YtbjokgnnklcbcaaGreatDoorTpb18
import Derived.Lib.ItoaNum
set_option linter.all false
/-! Plain: a network's text, lexed. -/
namespace Go.Proofs.YtbjokgnnklcbcaaGreatDoor
open Go.Lib
abbrev T0 := Nat × List UInt8 × Nat × Nat
/-- A token, but for its place. -/
def st (t : Tk) : T0 := (t.kind, t.s, t.w, t.n)
/-- A text whose tokens are these. -/
def LX (l : List UInt8) (ts : List T0) : Prop := ∀ fu k, l.length < fu → ∃ r, lexL fu k l = .ok r ∧ r.map st = ts
theorem lx_nil : LX [] [(0, [], 0, 0)] := fun fu k h => by
 match fu, h with
 | fu + 1, _ => exact ⟨[⟨0, [], 0, 0, k⟩], by simp [lexL, gap], rfl⟩
theorem lx_ws {c : UInt8} {l : List UInt8} {ts : List T0} (hc : wsB c = true) (h : LX l ts) : LX (c :: l) ts := fun fu k hf => by
 match fu, hf with
 | fu + 1, hf =>
  obtain ⟨r, h1, h2⟩ := h (fu + 1) (k + 1) (by simp at hf; omega)
  refine ⟨r, ?_, h2⟩
  rw [← h1, lexL, lexL]
  have e1 : gap false (c :: l) = gap false l + 1 := by simp [gap, hc]
  have e2 : k + (gap false l + 1) = k + 1 + gap false l := by omega
  simp only [e1, List.drop_succ_cons, e2]
theorem lx_tok {x l : List UInt8} {ts : List T0} {t : T0} (hx : x ≠ []) (ht : t.2.1 = x) (hg : gap false (x ++ l) = 0) (ho : oneR (x ++ l) = .ok t) (h : LX l ts) : LX (x ++ l) (t :: ts) := fun fu k hf => by
 have hx1 := List.length_pos_iff.2 hx
 match fu, hf with
 | fu + 1, hf =>
  obtain ⟨r, h1, h2⟩ := h fu (k + x.length) (by simp at hf; omega)
  refine ⟨⟨t.1, t.2.1, t.2.2.1, t.2.2.2, k⟩ :: r, ?_, ?_⟩
  ·rw [lexL]
   simp only [hg, List.drop_zero, ho, ht, Nat.add_zero, List.drop_left, h1]
   rw [if_neg (by simp [hx])]
  ·rw [List.map_cons, h2]; rfl
theorem gap_word {c : UInt8} {l : List UInt8} (h : wordB (c.toNat : Nat) = true) : gap false (c :: l) = 0 := by
 have h1 : wsB c = false := by
  cases hw : wsB c with
  | false => rfl
  | true => rw [ws_nonword hw] at h; cases h
 have h2 : ¬ c = 47 := by rintro rfl; revert h; decide
 simp [gap, h1, h2]
/-- A word, and behind it what is none. -/
theorem take_word {x l : List UInt8} {c : UInt8} (hx : x.all (fun c => wordB (c.toNat : Nat)) = true) (hc : wordB (c.toNat : Nat) = false) : (x ++ c :: l).take (wlenL (x ++ c :: l)) = x := by
 rw [wlenL_takeWhile, List.takeWhile_append_of_pos (fun a ha => (List.all_eq_true.1 hx) a ha), List.takeWhile_cons, if_neg (by rw [hc]; decide), List.append_nil]
theorem lx_name {x l : List UInt8} {c : UInt8} {ts : List T0} (hx : x ≠ []) (hw : x.all (fun c => wordB (c.toNat : Nat)) = true) (hd : digB (x.headD 0) = false) (hl : x.length ≤ 16) (hc : wordB (c.toNat : Nat) = false) (h : LX (c :: l) ts) :
  LX (x ++ c :: l) ((1, x, 0, 0) :: ts) := by
 refine lx_tok hx rfl ?_ ?_ h
 ·match x, hx, hw with
  | a :: b, _, hw => exact gap_word (by simp only [List.all_cons, Bool.and_eq_true] at hw; exact hw.1)
 ·unfold oneR
  simp only [take_word hw hc]
  rw [if_neg hx, if_neg (by rw [hd]; decide), if_neg (by omega)]
theorem lx_num {x l : List UInt8} {c : UInt8} {n : Nat} {ts : List T0} (hx : x ≠ []) (hw : x.all digB = true) (hn : numR x = .ok (0, n)) (hc : wordB (c.toNat : Nat) = false) (h : LX (c :: l) ts) :
  LX (x ++ c :: l) ((2, x, 0, n) :: ts) := by
 have hw' : x.all (fun c => wordB (c.toNat : Nat)) = true := by
  rw [List.all_eq_true] at hw ⊢
  intro a ha
  have := hw a ha
  unfold digB at this
  unfold wordB
  rw [this]; rfl
 refine lx_tok hx rfl ?_ ?_ h
 ·match x, hx, hw' with
  | a :: b, _, hw => exact gap_word (by simp only [List.all_cons, Bool.and_eq_true] at hw; exact hw.1)
 ·unfold oneR
  simp only [take_word hw' hc]
  have hd : digB (x.headD 0) = true := by
   match x, hx, hw with
   | a :: b, _, hw => simp only [List.all_cons, Bool.and_eq_true] at hw; exact hw.1
  rw [if_neg hx, if_pos hd, hn]
theorem lx_mark {c : UInt8} {l : List UInt8} {ts : List T0} (hc : c = 123 ∨ c = 125 ∨ c = 59 ∨ c = 58) (h : LX l ts) : LX (c :: l) ((3, [c], 0, 0) :: ts) := by
 have h2 : gap false ([c] ++ l) = 0 := by rcases hc with rfl | rfl | rfl | rfl <;> simp [gap, wsB]
 have hcw : wordB (c.toNat : Nat) = false := by rcases hc with rfl | rfl | rfl | rfl <;> decide
 have hz : wlenL ([c] ++ l) = 0 := by simp [wlenL, List.takeWhile_cons, hcw]
 have hm : markL ([c] ++ l) = [c] := by rcases hc with rfl | rfl | rfl | rfl <;> simp [markL, markF, longMarks, hasPrefix, List.isPrefixOf, shortMarks, indexByte]
 have h3 : oneR ([c] ++ l) = .ok (3, [c], 0, 0) := by
  unfold oneR
  simp only [hz, List.take_zero, if_true, hm]
  rw [if_neg (by simp)]
 exact lx_tok (x := [c]) (by simp) rfl h2 h3 h
/-- Three digits. -/
def dig3 (p : Nat) : List UInt8 := if p < 10 then [UInt8.ofNat (48 + p)] else if p < 100 then [UInt8.ofNat (48 + p / 10), UInt8.ofNat (48 + p % 10)] else [UInt8.ofNat (48 + p / 100), UInt8.ofNat (48 + p / 10 % 10), UInt8.ofNat (48 + p % 10)]
theorem dec_dig3 {p : Nat} (h : p < 1000) : decDigits p = dig3 p := by
 unfold dig3
 by_cases h1 : p < 10
 ·rw [decDigits, dif_pos h1, if_pos h1]
 ·rw [decDigits, dif_neg h1, if_neg h1]
  by_cases h2 : p < 100
  ·rw [if_pos h2, decDigits, dif_pos (by omega)]; rfl
  ·rw [if_neg h2, decDigits, dif_neg (by omega), decDigits, dif_pos (by omega), Nat.div_div_eq_div_mul]; rfl
def okDig (p : Nat) : Bool := (dig3 p).all digB && !(dig3 p).isEmpty && (match numR (dig3 p) with | .ok x => x.1 == 0 && x.2 == p | .error _ => false)
set_option maxRecDepth 100000 in
theorem all_dig : (List.range 512).all okDig = true := by decide +kernel
theorem dig_ok {p : Nat} (h : p < 512) : (dig3 p).all digB = true ∧ dig3 p ≠ [] ∧ numR (dig3 p) = .ok (0, p) := by
 have := (List.all_eq_true.1 all_dig) p (List.mem_range.2 h)
 unfold okDig at this
 rw [Bool.and_eq_true, Bool.and_eq_true] at this
 refine ⟨this.1.1, by simpa using this.1.2, ?_⟩
 have h2 := this.2
 split at h2
 ·rename_i x hx
  rw [hx]
  simp only [Bool.and_eq_true, beq_iff_eq] at h2
  rw [← h2.1, ← h2.2]
 ·cases h2
theorem lx_port {p : Int} {c : UInt8} {l : List UInt8} {ts : List T0} (h1 : 1 ≤ p) (h2 : p ≤ 511) (hc : wordB (c.toNat : Nat) = false) (h : LX (c :: l) ts) : LX (itoa p ++ c :: l) ((2, itoa p, 0, p.toNat) :: ts) := by
 have e : itoa p = dig3 p.toNat := by unfold itoa; rw [if_neg (by omega), dec_dig3 (by omega)]
 obtain ⟨a, b, d⟩ := dig_ok (p := p.toNat) (by omega)
 rw [e]
 exact lx_num b a d hc h
/-- A switch's text, a link's, a network's. -/
def swTx (s : ByteArray) (ps : List Int) : List UInt8 := bSwitch ++ 32 :: (s.data.toList ++ 32 :: 123 :: (ps.flatMap (fun p => 32 :: (itoa p ++ [59])) ++ [32, 125, 10]))
def endTx (n : Net) (e : Int × Int) : List UInt8 := 32 :: ((n.sw.getD e.1.toNat ByteArray.empty).data.toList ++ 58 :: itoa e.2)
def lnTx (n : Net) (x : Lnk) : List UInt8 := bLink ++ (endTx n x.1 ++ (endTx n x.2 ++ [59, 10]))
def textB (n : Net) : List UInt8 := (n.sw.zip n.ports).flatMap (fun x => swTx x.1 x.2) ++ n.links.flatMap (lnTx n)
def portTs (ps : List Int) : List T0 := ps.flatMap fun p => [(2, itoa p, 0, p.toNat), (3, bSemi, 0, 0)]
def swTs (s : ByteArray) (ps : List Int) : List T0 := (1, bSwitch, 0, 0) :: (1, s.data.toList, 0, 0) :: (3, bOpen, 0, 0) :: (portTs ps ++ [(3, bShut, 0, 0)])
def endTs (n : Net) (e : Int × Int) : List T0 := [(1, (n.sw.getD e.1.toNat ByteArray.empty).data.toList, 0, 0), (3, bColon, 0, 0), (2, itoa e.2, 0, e.2.toNat)]
def lnTs (n : Net) (x : Lnk) : List T0 := (1, bLink, 0, 0) :: (endTs n x.1 ++ (endTs n x.2 ++ [(3, bSemi, 0, 0)]))
def textTs (n : Net) : List T0 := (n.sw.zip n.ports).flatMap (fun x => swTs x.1 x.2) ++ (n.links.flatMap (lnTs n) ++ [(0, [], 0, 0)])
theorem name_parts {s : ByteArray} (h : nameB s = true) : s.data.toList ≠ [] ∧ (s.data.toList.all fun c => wordB (c.toNat : Nat)) = true ∧ digB (s.data.toList.headD 0) = false ∧ s.data.toList.length ≤ 16 := by
 unfold nameB at h
 simp only [Bool.and_eq_true, decide_eq_true_eq, Bool.not_eq_true'] at h
 obtain ⟨⟨⟨h1, h2⟩, -⟩, h3⟩ := h
 have hz : s.data.toList.length = s.size := rfl
 exact ⟨fun e => by rw [e] at hz; simp at hz; omega, h3, h2, by omega⟩
theorem lx_ports {l : List UInt8} {ts : List T0} : ∀ (ps : List Int), (∀ p ∈ ps, 1 ≤ p ∧ p ≤ 511) → LX l ts → LX (ps.flatMap (fun p => 32 :: (itoa p ++ [59])) ++ l) (portTs ps ++ ts)
 | [], _, h => h
 | p :: r, hp, h => by
  have ih := lx_ports r (fun q hq => hp q (List.mem_cons_of_mem _ hq)) h
  obtain ⟨h1, h2⟩ := hp p List.mem_cons_self
  have := lx_ws (c := 32) rfl (lx_port h1 h2 (c := 59) (by decide) (lx_mark (c := 59) (by simp) ih))
  simpa [portTs, bSemi] using this
theorem lx_sw {s : ByteArray} {ps : List Int} {l : List UInt8} {ts : List T0} (hs : nameB s = true) (hp : ∀ p ∈ ps, 1 ≤ p ∧ p ≤ 511) (h : LX l ts) : LX (swTx s ps ++ l) (swTs s ps ++ ts) := by
 obtain ⟨a, b, c, d⟩ := name_parts hs
 have h1 := lx_ports ps hp (lx_ws (c := 32) rfl (lx_mark (c := 125) (by simp) (lx_ws (c := 10) rfl h)))
 have h2 := lx_name a b c d (c := 32) (by decide) (lx_ws (c := 32) rfl (lx_mark (c := 123) (by simp) h1))
 have h3 := lx_name (x := bSwitch) (by decide) (by decide) (by decide) (by decide) (c := 32) (by decide) (lx_ws (c := 32) rfl h2)
 simpa [swTx, swTs, bOpen, bShut] using h3
theorem lx_end {n : Net} {e : Int × Int} {c : UInt8} {l : List UInt8} {ts : List T0} (hs : nameB (n.sw.getD e.1.toNat ByteArray.empty) = true) (h1 : 1 ≤ e.2) (h2 : e.2 ≤ 511) (hc : wordB (c.toNat : Nat) = false) (h : LX (c :: l) ts) : LX (endTx n e ++ c :: l) (endTs n e ++ ts) := by
 obtain ⟨a, b, d, f⟩ := name_parts hs
 have h3 := lx_ws (c := 32) rfl (lx_name a b d f (c := 58) (by decide) (lx_mark (c := 58) (by simp) (lx_port h1 h2 hc h)))
 simpa [endTx, endTs, bColon] using h3
theorem lx_ln {n : Net} {x : Lnk} {l : List UInt8} {ts : List T0} (hs : nameB (n.sw.getD x.1.1.toNat ByteArray.empty) = true) (h1 : 1 ≤ x.1.2) (h2 : x.1.2 ≤ 511) (hs' : nameB (n.sw.getD x.2.1.toNat ByteArray.empty) = true) (h1' : 1 ≤ x.2.2) (h2' : x.2.2 ≤ 511) (h : LX l ts) : LX (lnTx n x ++ l) (lnTs n x ++ ts) := by
 have h3 := lx_end hs' h1' h2' (c := 59) (by decide) (lx_mark (c := 59) (by simp) (lx_ws (c := 10) rfl h))
 have h4 := lx_end (n := n) (e := x.1) hs h1 h2 (c := 32) (by decide) (l := (endTx n x.2 ++ 59 :: 10 :: l).tail) (by simpa [endTx] using h3)
 have h5 := lx_name (x := bLink) (by decide) (by decide) (by decide) (by decide) (c := 32) (by decide) (l := (endTx n x.1 ++ (endTx n x.2 ++ 59 :: 10 :: l)).tail) (by simpa [endTx] using h4)
 simpa [lnTx, lnTs, endTx, bSemi] using h5
theorem there_parts {n : Net} (h : mayB n = true) {e : Int × Int} (ht : thereB n e = true) : nameB (n.sw.getD e.1.toNat ByteArray.empty) = true ∧ (1 ≤ e.2 ∧ e.2 ≤ 511) ∧ 0 ≤ e.1 ∧ e.1 < n.sw.length := by
 obtain ⟨⟨h1, h2⟩, h3, -, -⟩ := mayB_iff.1 h
 unfold thereB at ht
 rw [decide_eq_true_eq] at ht
 obtain ⟨a, b, c⟩ := ht
 obtain ⟨x, -, z⟩ := h3 e.1.toNat (by omega)
 unfold mayPortsB at z
 rw [Bool.and_eq_true, decide_eq_true_eq, ports_iff] at z
 exact ⟨x, z.1.1 _ c, a, by omega⟩
theorem lx_sws : ∀ (l : List (ByteArray × List Int)) (r : List UInt8) (ts : List T0), (∀ x ∈ l, nameB x.1 = true ∧ ∀ p ∈ x.2, 1 ≤ p ∧ p ≤ 511) → LX r ts → LX (l.flatMap (fun x => swTx x.1 x.2) ++ r) (l.flatMap (fun x => swTs x.1 x.2) ++ ts)
 | [], _, _, _, h => h
 | x :: l, r, ts, hx, h => by
  have ih := lx_sws l r ts (fun y hy => hx y (List.mem_cons_of_mem _ hy)) h
  have h1 := hx x List.mem_cons_self
  have := lx_sw h1.1 h1.2 ih
  simpa using this
theorem lx_lns {n : Net} (hm : mayB n = true) : ∀ (l : List Lnk) (r : List UInt8) (ts : List T0), (∀ e ∈ endsOf l, thereB n e = true) → LX r ts → LX (l.flatMap (lnTx n) ++ r) (l.flatMap (lnTs n) ++ ts)
 | [], _, _, _, h => h
 | x :: l, r, ts, hx, h => by
  have ih := lx_lns hm l r ts (fun y hy => hx y (by unfold endsOf at hy ⊢; simp only [List.flatMap_cons, List.mem_append]; exact .inr hy)) h
  have h1 := there_parts hm (hx x.1 (mem_ends.2 ⟨x, List.mem_cons_self, .inl rfl⟩))
  have h2 := there_parts hm (hx x.2 (mem_ends.2 ⟨x, List.mem_cons_self, .inr rfl⟩))
  have := lx_ln h1.1 h1.2.1.1 h1.2.1.2 h2.1 h2.2.1.1 h2.2.1.2 ih
  simpa using this
/-- The text of a network that may be has its tokens. -/
theorem lx_text {n : Net} (h : mayB n = true) : LX (textB n) (textTs n) := by
 obtain ⟨⟨h1, h2⟩, h3, h4, h5⟩ := mayB_iff.1 h
 have hl := lx_lns h n.links [] _ h4 lx_nil
 rw [List.append_nil] at hl
 refine lx_sws _ _ _ (fun x hx => ?_) hl
 obtain ⟨i, hi, rfl⟩ := List.getElem_of_mem hx
 rw [List.length_zip] at hi
 obtain ⟨a, -, z⟩ := h3 i (by omega)
 rw [getD_eq (by omega)] at a z
 unfold mayPortsB at z
 rw [Bool.and_eq_true, decide_eq_true_eq, ports_iff] at z
 rw [List.getElem_zip]
 exact ⟨a, z.1.1⟩
end Go.Proofs.YtbjokgnnklcbcaaGreatDoor

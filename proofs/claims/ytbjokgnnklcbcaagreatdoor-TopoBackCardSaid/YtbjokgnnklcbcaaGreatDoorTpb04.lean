import Derived.Test.YtbjokgnnklcbcaaGreatDoorTpb02
import Derived.Test.YtbjokgnnklcbcaaGreatDoorTpb03
import Derived.Test.YtbjokgnnklcbcaaGreatDoorTpb01
import Derived.Test.YtbjokgnnklcbcaaGreatDoorShelf
set_option linter.all false
/-! Plain: a network, read of tokens. -/
namespace Go.Proofs.YtbjokgnnklcbcaaGreatDoor
open Go.Lib
abbrev tkZ : Tk := ⟨0, [], 0, 0, 0⟩
def headT (l : List Tk) : Tk := l.headD tkZ
/-- The next token is gone, unless it is the end. -/
def advT (l : List Tk) : List Tk := if (headT l).kind = 0 then l else l.tail
/-- Tokens that end, none of them long. -/
def hasEnd (l : List Tk) : Prop := (∃ t ∈ l, t.kind = 0) ∧ ∀ t ∈ l, t.s.length ≤ 65536
def isT (s : List UInt8) (l : List Tk) : Bool := (headT l).s == s && ((headT l).kind == 3 || (headT l).kind == 1)
def wantT (s : List UInt8) (l : List Tk) : Except (Int × Nat) (List Tk) := if isT s l then .ok (advT l) else .error (4, (headT l).pl)
/-- A token that is a name. -/
def nmT (t : Tk) : Bool := t.kind == 1 && nameB ⟨t.s.toArray⟩
def nameT (l : List Tk) : Except (Int × Nat) (List UInt8 × List Tk) := if nmT (headT l) then .ok ((headT l).s, advT l) else .error (4, (headT l).pl)
def portT (l : List Tk) : Except (Int × Nat) (Int × List Tk) :=
 let t := headT l
 if t.kind ≠ 2 then .error (4, t.pl) else if t.w ≠ 0 then .error (10, t.pl) else if t.n < 1 ∨ 511 < t.n then .error (5, t.pl) else .ok ((t.n : Int), advT l)
def bOpen : List UInt8 := [123]
def bShut : List UInt8 := [125]
def bSemi : List UInt8 := [59]
def bColon : List UInt8 := [58]
def bSwitch : List UInt8 := [115, 119, 105, 116, 99, 104]
def bLink : List UInt8 := [108, 105, 110, 107]
/-- A switch's ports, up to the bracket. -/
def portsT : Nat → List Int → List Tk → Except (Int × Nat) (List Int × List Tk)
 | 0, acc, l => .ok (acc, l)
 | f + 1, acc, l =>
  if isT bShut l then .ok (acc, l)
  else if ¬ (acc.length < 8 ∨ (headT l).kind ≠ 2) then .error (5, (headT l).pl)
  else match portT l with
   | .error e => .error e
   | .ok (p, l1) => if p ∈ acc then .error (8, (headT l).pl) else match wantT bSemi l1 with
    | .error e => .error e
    | .ok l2 => portsT f (acc ++ [p]) l2
/-- Numbers of 1 to 511, rising. -/
def sortP (l : List Int) : List Int := ((List.range 511).map fun i : Nat => ((i : Int) + 1)).filter fun x => decide (x ∈ l)
def prtsT (l : List Tk) : Except (Int × Nat) (List Int × List Tk) :=
 match wantT bOpen l with
 | .error e => .error e
 | .ok l1 => match portsT l1.length [] l1 with
  | .error e => .error e
  | .ok (ps, l2) => match wantT bShut l2 with
   | .error e => .error e
   | .ok l3 => .ok (sortP ps, l3)
/-- A link's end: where its port stands, the end. -/
def endT (n : Net) (l : List Tk) : Except (Int × Nat) (Nat × (Int × Int) × List Tk) :=
 match nameT l with
 | .error e => .error e
 | .ok (s, l1) => if ⟨s.toArray⟩ ∈ n.sw then match wantT bColon l1 with
   | .error e => .error e
   | .ok l2 => match portT l2 with
    | .error e => .error e
    | .ok (p, l3) =>
     if thereB n (findI n.sw ⟨s.toArray⟩, p) = false then .error (7, (headT l2).pl)
     else if (nextB n (findI n.sw ⟨s.toArray⟩, p)).2.2 then .error (8, (headT l2).pl)
     else .ok ((headT l2).pl, (findI n.sw ⟨s.toArray⟩, p), l3)
  else .error (7, (headT l).pl)
def swT (n : Net) (l : List Tk) : Except (Int × Nat) (Net × List Tk) :=
 if ¬ n.sw.length < 8 then .error (5, (headT l).pl)
 else match nameT (advT l) with
  | .error e => .error e
  | .ok (s, l1) => if ⟨s.toArray⟩ ∈ n.sw then .error (8, (headT (advT l)).pl) else match prtsT l1 with
   | .error e => .error e
   | .ok (ps, l2) => .ok (⟨n.sw ++ [⟨s.toArray⟩], n.ports ++ [ps], n.links⟩, l2)
def swsT : Nat → Net → List Tk → Except (Int × Nat) (Net × List Tk)
 | 0, n, l => .ok (n, l)
 | f + 1, n, l => if isT bSwitch l then match swT n l with
   | .error e => .error e
   | .ok (n1, l1) => swsT f n1 l1
  else .ok (n, l)
def lnT (n : Net) (l : List Tk) : Except (Int × Nat) (Net × List Tk) :=
 match endT n (advT l) with
 | .error e => .error e
 | .ok (_, a, l1) => match endT n l1 with
  | .error e => .error e
  | .ok (pl, b, l2) => if a = b then .error (8, pl) else match wantT bSemi l2 with
   | .error e => .error e
   | .ok l3 => .ok (⟨n.sw, n.ports, n.links ++ [(a, b)]⟩, l3)
def lnsT : Nat → Net → List Tk → Except (Int × Nat) (Net × List Tk)
 | 0, n, l => .ok (n, l)
 | f + 1, n, l => if isT bLink l then match lnT n l with
   | .error e => .error e
   | .ok (n1, l1) => lnsT f n1 l1
  else .ok (n, l)
def emptyN : Net := ⟨[], [], []⟩
/-- A network, read of tokens. -/
def allT (l : List Tk) : Except (Int × Nat) Net :=
 match swsT l.length emptyN l with
 | .error e => .error e
 | .ok (n, l1) => match lnsT l1.length n l1 with
  | .error e => .error e
  | .ok (n2, l2) => if (headT l2).kind = 0 then .ok n2 else .error (4, (headT l2).pl)
/-- A network, read of a text: or which is the first fault, and where. -/
def readT (l : List UInt8) : Except (Int × Nat) Net :=
 match lexR l with
 | .error e => .error e
 | .ok r => allT r
theorem hasEnd.ne {l : List Tk} (h : hasEnd l) : l ≠ [] := by
 obtain ⟨⟨t, ht, _⟩, _⟩ := h
 exact List.ne_nil_of_mem ht
theorem hasEnd.head {l : List Tk} (h : hasEnd l) : (headT l).s.length ≤ 65536 := by
 cases l with
 | nil => exact absurd rfl h.ne
 | cons a r => exact h.2 a List.mem_cons_self
theorem hasEnd.adv {l : List Tk} (h : hasEnd l) : hasEnd (advT l) := by
 unfold advT
 split
 ·exact h
 ·rename_i hk
  obtain ⟨⟨t, ht, h0⟩, h2⟩ := h
  cases l with
  | nil => simp at ht
  | cons a r =>
   refine ⟨?_, fun x hx => h2 x (List.mem_cons_of_mem _ hx)⟩
   rcases List.mem_cons.1 ht with rfl | ht
   ·exact absurd h0 hk
   ·exact ⟨t, ht, h0⟩
theorem advT_le (l : List Tk) : (advT l).length ≤ l.length := by
 unfold advT
 split
 ·exact Nat.le_refl _
 ·rw [List.length_tail]; omega
theorem advT_lt {l : List Tk} (h : hasEnd l) (hk : (headT l).kind ≠ 0) : (advT l).length + 1 = l.length := by
 unfold advT
 rw [if_neg hk, List.length_tail]
 have := List.length_pos_iff.2 h.ne
 omega
theorem isT_kind {s : List UInt8} {l : List Tk} (h : isT s l = true) : (headT l).kind ≠ 0 := by
 unfold isT at h
 simp only [Bool.and_eq_true, Bool.or_eq_true, beq_iff_eq] at h
 omega
theorem wantT_ok {s : List UInt8} {l l' : List Tk} (h : wantT s l = .ok l') : isT s l = true ∧ l' = advT l := by
 unfold wantT at h
 split at h
 ·injection h with h; exact ⟨by assumption, h.symm⟩
 ·cases h
theorem portT_ok {l l' : List Tk} {p : Int} (h : portT l = .ok (p, l')) : (headT l).kind = 2 ∧ (headT l).w = 0 ∧ 1 ≤ (headT l).n ∧ (headT l).n ≤ 511 ∧ p = ((headT l).n : Int) ∧ l' = advT l := by
 unfold portT at h
 simp only at h
 split at h
 ·cases h
 ·split at h
  ·cases h
  ·split at h
   ·cases h
   ·injection h with h
    injection h with h1 h2
    refine ⟨by omega, by omega, by omega, by omega, h1.symm, h2.symm⟩
end Go.Proofs.YtbjokgnnklcbcaaGreatDoor
/-! Layer 3: names and keywords (the part of DnB, DnC, DnE that speaks of them). -/
namespace Go.Proofs.YtbjokgnnklcbcaaGreatDoor
open Go.RowKit
set_option maxHeartbeats 400000 in
theorem isDigit_any (c : Int) (w : World) : Calls Tryz.prog 62 #[.int .u8 c] w fun e w' => e = .returned (.bool (digitB c)) ∧ w = w' := by
 go_enter Tryz.func62, Tryz.ntmps62
 go_wp2
 all_goals
  go_ret
  exact ⟨ret_bool (by simp [digitB]; omega), rfl⟩
set_option maxHeartbeats 400000 in
theorem isWord_any (c : Int) (w : World) : Calls Tryz.prog 82 #[.int .u8 c] w fun e w' => e = .returned (.bool (wordB c)) ∧ w = w' := by
 go_enter Tryz.func82, Tryz.ntmps82
 go_wp2_with (go_at_call 62; refine (isDigit_any _ _).mono ?_; rintro e w' ⟨rfl, rfl⟩)
 all_goals
  go_ret
  refine ⟨ret_bool ?_, rfl⟩
  simp only [digitB, decide_eq_true_eq, decide_eq_false_iff_not] at *
  simp [wordB, digitB, letterB]; try omega
set_option maxHeartbeats 400000 in
theorem word_any (s : ByteArray) (w : World) (hs : s.size ≤ maxLen) :
  Calls Tryz.prog 61 #[.string s] w fun e w' => e = .returned (.string (s.extract 0 (wlen s))) ∧ w = w' := by
 have hl : s.size ≤ 9223372036854775807 := hs
 go_enter Tryz.func61, Tryz.ntmps61
 go_wp2
 go_loop [3] (fun i => ∃ k : Nat, k ≤ s.size ∧ i = .int .i64 k ∧ k ≤ wlen s) (fun i => s.size - (intOf i).toNat)
 case atStart => exact ⟨0, Nat.zero_le _, rfl, Nat.zero_le _⟩
 case round =>
  obtain ⟨k, hk, rfl, hc⟩ := hrel
  by_cases hlt : k < s.size
  ·go_wp2_with (go_at_call 82; refine (isWord_any _ _).mono ?_; rintro e w' ⟨rfl, rfl⟩)
   ·go_round
    case rel => exact ⟨k + 1, by omega, by go_num, wlen_succ hlt hc (by assumption)⟩
    case measure => simp [intOf]; omega
   ·go_ret
    rw [wlen_stop hlt hc (by assumption)]
    exact ⟨rfl, rfl⟩
  ·go_wp2_with (go_at_call 82; refine (isWord_any _ _).mono ?_; rintro e w' ⟨rfl, rfl⟩)
   go_ret
   rw [wlen_end hk hlt hc]
   exact ⟨rfl, rfl⟩
set_option maxHeartbeats 400000 in
theorem isKeyword_any (s : ByteArray) (m : Int) (w : World) (hs : s.size < 4294967281) (hm : w.cell? ⟨0, 0, none⟩ = some (.int .i64 m)) :
  Calls Tryz.prog 63 #[.string s] w fun e w' => e = .returned (.bool (kwB s)) ∧ w = w' := by
 go_enter Tryz.func63, Tryz.ntmps63
 by_cases h0 : s.toList = []
 ·have h0' : s.toList.isEmpty = true := by simp [h0]
  go_wp2
  go_ret
  exact ⟨ret_b (kwB_empty h0).symm, rfl⟩
 ·have h0' : s.toList.isEmpty = false := by simp [h0]
  go_wp2_with fail
  refine (Tryz.strings_Contains _ _ m _ hs hm).mono ?_
  rintro e w' ⟨rfl, rfl⟩
  cases hb : Go.Lib.contains s.data.toList (ByteArray.mk #[32]).data.toList with
  | true =>
   go_wp2_with fail
   go_ret
   exact ⟨ret_b (kwB_blank hb).symm, rfl⟩
  | false =>
   go_wp2_with fail
   refine (Tryz.strings_Contains _ _ m _ (by decide +kernel) hm).mono ?_
   rintro e w' ⟨rfl, rfl⟩
   rw [kwB_eq s _ (by decide +kernel) h0 (by assumption)]
   go_wp2_with fail
   go_ret
   exact ⟨rfl, rfl⟩
set_option maxHeartbeats 1000000 in
theorem isName_any (s : ByteArray) (m : Int) (w : World) (hs : s.size ≤ maxLen) (hm : w.cell? ⟨0, 0, none⟩ = some (.int .i64 m)) :
  Calls Tryz.prog 29 #[.string s] w fun e w' => e = .returned (.bool (nameB s)) ∧ w = w' := by
 have hn := hide (nameB_eq s)
 go_enter Tryz.func29, Tryz.ntmps29
 cases ha : ((s.extract 0 (wlen s)).toList == s.toList) with
 | false =>
  go_wp2_with (go_at_call 61; refine (word_any _ _ hs).mono ?_; rintro e w' ⟨rfl, rfl⟩)
  go_ret
  exact ⟨ret_b (by rw [hn.out, ha]; rfl), rfl⟩
 | true =>
  by_cases h0 : 0 < s.size
  ·have h0' : s.toList.isEmpty = false := isEmpty_false h0
   by_cases h16 : s.size ≤ 16
   ·cases hd : digitB (s[0].toNat : Nat) with
    | true =>
     go_wp2_with (first | (go_at_call 61; refine (word_any _ _ hs).mono ?_; rintro e w' ⟨rfl, rfl⟩) | (go_at_call 62; refine (isDigit_any _ _).mono ?_; rintro e w' ⟨rfl, rfl⟩))
     go_ret
     exact ⟨ret_b (by rw [hn.out, headD_eq h0, hd]; simp), rfl⟩
    | false =>
     go_wp2_with (first | (go_at_call 61; refine (word_any _ _ hs).mono ?_; rintro e w' ⟨rfl, rfl⟩) | (go_at_call 62; refine (isDigit_any _ _).mono ?_; rintro e w' ⟨rfl, rfl⟩) | (go_at_call 63; refine (isKeyword_any _ m _ (by omega) hm).mono ?_; rintro e w' ⟨rfl, rfl⟩))
     go_ret
     exact ⟨ret_b (by rw [hn.out, headD_eq h0, hd, ha, h0']; simp [h16]), rfl⟩
   ·go_wp2_with (go_at_call 61; refine (word_any _ _ hs).mono ?_; rintro e w' ⟨rfl, rfl⟩)
    go_ret
    exact ⟨ret_b (by rw [hn.out]; simp [h16]), rfl⟩
  ·have h0' : s.toList.isEmpty = true := isEmpty_true h0
   go_wp2_with (go_at_call 61; refine (word_any _ _ hs).mono ?_; rintro e w' ⟨rfl, rfl⟩)
   go_ret
   exact ⟨ret_b (by rw [hn.out, h0']; simp), rfl⟩
end Go.Proofs.YtbjokgnnklcbcaaGreatDoor
/-! Layer 3: what stands between tokens. -/
namespace Go.Proofs.YtbjokgnnklcbcaaGreatDoor
open Go.RowKit
set_option maxRecDepth 100000 in
set_option maxHeartbeats 2000000 in
theorem between_any (s : ByteArray) (w : World) (hs : s.size ≤ maxLen) :
  Calls Tryz.prog 43 #[.string s] w fun e w' => e = .returned (.int .i64 (gapAt s 0)) ∧ w' = w := by
 have hl : s.size ≤ 9223372036854775807 := hs
 go_enter Tryz.func43, Tryz.ntmps43
 go_wp2
 go_loop [3, 5] (fun i _ => ∃ k : Nat, k ≤ s.size ∧ i = .int .i64 k ∧ gapAt s k = gapAt s 0) (fun i _ => s.size - (intOf i).toNat)
 case atStart => exact ⟨0, Nat.zero_le _, rfl, rfl⟩
 case round =>
  obtain ⟨k, hk, rfl, hg⟩ := hrel
  by_cases hlt : k < s.size
  ·have hkz : (k : Int) < (s.size : Int) := by omega
   have hP := fun W => Tryz.strings_HasPrefix (s.extract k s.size) ⟨#[47, 47]⟩ W
   rw [ext_drop] at hP
   have hI := fun W => Tryz.strings_IndexByte (s.extract k s.size) 10 W
   rw [ext_drop] at hI
   generalize hp : Lib.hasPrefix (s.data.toList.drop k) [47, 47] = pb at hP
   generalize hi : Lib.indexByte (s.data.toList.drop k) (10 : Int).toNat.toUInt8 = ib at hI
   replace hp := hide hp
   replace hi := hide hi
   cases pb with
   | false =>
    go_wp2_with (go_at_call 68; refine (hP _).mono ?_; rintro e w' ⟨rfl, rfl⟩)
    all_goals try simp only [beq_iff_eq, beq_eq_false_iff_ne, ne_eq] at *
    all_goals first
     | (have hw : wsB s[k] = true := (ws_iff _).2 (by omega)
        go_round
        case rel => exact ⟨k + 1, by omega, by go_num, (gapAt_ws hlt hw).trans hg⟩
        case measure => simp [intOf]; omega)
     | (have hw : wsB s[k] = false := by rw [← Bool.not_eq_true, ws_iff]; omega
        go_ret
        rw [show gapAt s 0 = k from hg.symm.trans (gapAt_stop hlt hw hp.out)]
        exact ⟨rfl, rfl⟩)
   | true =>
    by_cases hin : ib = -1
    ·subst hin
     have hz : (-1 : Int) < 0 := by omega
     go_wp2_with (first
      | (go_at_call 68; refine (hP _).mono ?_; rintro e w' ⟨rfl, rfl⟩)
      | (go_at_call 69; refine (hI _).mono ?_; rintro e w' ⟨rfl, rfl⟩))
     all_goals try simp only [beq_iff_eq, beq_eq_false_iff_ne, ne_eq] at *
     all_goals first
      | (have hw : wsB s[k] = true := (ws_iff _).2 (by omega)
         go_round
         case rel => exact ⟨k + 1, by omega, by go_num, (gapAt_ws hlt hw).trans hg⟩
         case measure => simp [intOf]; omega)
      | (go_ret
         rw [show gapAt s 0 = s.size from hg.symm.trans (gapAt_eof (Nat.le_of_lt hlt) hp.out hi.out)]
         exact ⟨rfl, rfl⟩)
    ·obtain ⟨n, hn1, hn2, hn3, hn4⟩ := gapAt_line (Nat.le_of_lt hlt) hp.out (show Lib.indexByte (s.data.toList.drop k) 10 ≠ -1 from fun e => hin (hi.out.symm.trans e))
     have hib : ib = (n : Int) := hi.out.symm.trans hn1
     subst hib
     have hz : ¬ ((n : Int) < 0) := by omega
     replace hn1 := hide hn1
     go_wp2_with (first
      | (go_at_call 68; refine (hP _).mono ?_; rintro e w' ⟨rfl, rfl⟩)
      | (go_at_call 69; refine (hI _).mono ?_; rintro e w' ⟨rfl, rfl⟩))
     all_goals try simp only [beq_iff_eq, beq_eq_false_iff_ne, ne_eq] at *
     all_goals first
      | (have hw : wsB s[k] = true := (ws_iff _).2 (by omega)
         go_round
         case rel => exact ⟨k + 1, by omega, by go_num, (gapAt_ws hlt hw).trans hg⟩
         case measure => simp [intOf]; omega)
      | (go_round
         case rel => exact ⟨k + n, by omega, by go_num, hn4.trans hg⟩
         case measure => simp [intOf]; omega)
  ·have he := gapAt_end hlt
   go_wp2
   go_ret
   rw [show gapAt s 0 = k from hg.symm.trans he]
   exact ⟨rfl, rfl⟩
end Go.Proofs.YtbjokgnnklcbcaaGreatDoor

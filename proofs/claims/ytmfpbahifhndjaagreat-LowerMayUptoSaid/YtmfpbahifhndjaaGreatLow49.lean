import Derived.Test.YtmfpbahifhndjaaGreatLow48
import Derived.Test.YtmfpbahifhndjaaGreatLow07
set_option linter.all false
/-! Printed by gen_lopen.py. Openers: a lowered program. -/
namespace Go.Proofs.YtmfpbahifhndjaaGreat
open Go.ChangeShapes Go.WideShapes Go.ChangeAt Go.RowKit Go.Deep
theorem lwf_u64 {n : Int} (h : (Lit.int .u64 n).wf = true) : u64 n := by
 simp [Lit.wf, IntKind.min, IntKind.max, IntKind.signed, IntKind.bits] at h
 unfold u64; omega
theorem lwf_u8 {n : Int} (h : (Lit.int .u8 n).wf = true) : u8 n := by
 simp [Lit.wf, IntKind.min, IntKind.max, IntKind.signed, IntKind.bits] at h
 unfold u8; omega
def lU64 : CR Int := fun _ _ cs n => cs = [.int .u64 n] ∧ u64 n
def lU8 : CR Int := fun _ _ cs n => cs = [.int .u8 n] ∧ u8 n
theorem lrd_int {m : Nat} : RdB m 3 rInt := rdb_of (rd_int Tryz.underlying3)
theorem lrd_str {m : Nat} : RdB m 9 rStr := rdb_of (rd_str Tryz.underlying9)
theorem lrd_u64 {m : Nat} : RdB m 58 lU64 := fun _ _ _ _ _ _ h _ => by
 obtain ⟨n, rfl, _, hw⟩ := DataW.trod_int Tryz.underlying58 h
 exact ⟨n, rfl, lwf_u64 hw⟩
theorem lrd_u8 {m : Nat} : RdB m 5 lU8 := fun _ _ _ _ _ _ h _ => by
 obtain ⟨n, rfl, _, hw⟩ := DataW.trod_int Tryz.underlying5 h
 exact ⟨n, rfl, lwf_u8 hw⟩
theorem lrd_k {m : Nat} : RdB m 5 rU8 := fun H enc w fuel cs x h hb => by
 obtain ⟨n, e, -⟩ := lrd_u8 H enc w fuel cs x h hb
 exact ⟨n, e⟩
theorem lbulk_len {H : Type} (l : List (DataW H)) : l.length ≤ Rows.uptoBulkAll l := by
 induction l with
 | nil => simp [Rows.uptoBulkAll]
 | cons x r ih => have := bulk_pos x; simp only [Rows.uptoBulkAll, List.length_cons]; omega
/-- A slice that reads is no longer than its capacity, nor than its bulk. -/
def rSlK {α : Type} (m k : Nat) (R : CR α) : CR (List α) := fun w B cs xs => ∃ A cap, cs = [.slice A xs.length cap] ∧ Sl k R w B A xs ∧ xs.length ≤ cap ∧ xs.length ≤ m
theorem lrd_slice {α : Type} {R : CR α} {t e : TypeId} {k m : Nat} (ht : Tryz.prog.underlying t = some (.slice e)) (hk : Tryz.prog.cellsOf e = k) (hk0 : 0 < k) (he : RdB m e R) : RdB m t (rSlK m k R) := fun H enc w fuel cs x h hb => by
 obtain ⟨xs, A, cap, e1, hS⟩ := rdb_slice ht hk hk0 he H enc w fuel cs x h (Nat.le_succ_of_le hb)
 refine ⟨xs, A, cap, e1, hS, ?_⟩
 rcases open_slice ht h with ⟨rfl, _⟩ | ⟨a, len, cap', mm, n, D, Pl, rfl, _, hl, hm, hmm, hxx, hx⟩
 ·injection e1 with e1 _
  injection e1 with _ e2 e3
  omega
 ·injection e1 with e1 _
  injection e1 with _ e2 e3
  rw [hxx] at hb
  simp only [Rows.uptoBulk] at hb
  have := lbulk_len ((List.range len).map D)
  simp at this
  omega
/-- The same, where only what lies is asked. -/
theorem lrd_sl {α : Type} {R : CR α} {t e : TypeId} {k m : Nat} (ht : Tryz.prog.underlying t = some (.slice e)) (hk : Tryz.prog.cellsOf e = k) (hk0 : 0 < k) (he : RdB m e R) : RdB m t (rSl k R) := fun H enc w fuel cs x h hb => by
 obtain ⟨xs, A, cap, e1, hS, -⟩ := lrd_slice ht hk hk0 he H enc w fuel cs x h hb
 exact ⟨xs, A, cap, e1, hS⟩
def rRn : CR Rn := fun w B cs x => ∃ A cap, cs = [.int .i64 x.act, .slice A x.args.length cap] ∧ Sl 2 rNu w B A x.args
/-- The names of a lowered program. -/
structure Nms where
 nh : List ByteArray
 nf : List (List ByteArray)
 nm : List ByteArray
 na : List ByteArray
 nt : List ByteArray
def rNms : CR Nms := fun w B cs x => ∃ A8 A9 A10 A11 A12 c8 c9 c10 c11 c12, cs = [.slice A8 x.nh.length c8, .slice A9 x.nf.length c9, .slice A10 x.nm.length c10, .slice A11 x.na.length c11, .slice A12 x.nt.length c12] ∧ Sl 1 rStr w B A8 x.nh ∧ Sl 1 (rSl 1 rStr) w B A9 x.nf ∧ Sl 1 rStr w B A10 x.nm ∧ Sl 1 rStr w B A11 x.na ∧ Sl 1 rStr w B A12 x.nt
def rLp : CR Lp := fun w B cs p => ∃ A1 A2 A3 A4 A5 A6 A7 A8 A9 A10 A11 A12 c1 c2 c3 c4 c5 c6 c7 c8 c9 c10 c11 c12, cs = (#[.slice A1 p.heads.length c1, .slice A2 p.metas.length c2, .slice A3 p.steps.length c3, .slice A4 p.acts.length c4, .slice A5 p.tabs.length c5, .slice A6 p.control.length c6, .slice A7 p.emit.length c7, .slice A8 p.nh.length c8, .slice A9 p.nf.length c9, .slice A10 p.nm.length c10, .slice A11 p.na.length c11, .slice A12 p.nt.length c12] : Array Value).toList ∧ LpS w B A1 A2 A3 A4 A5 A6 A7 A8 A9 A10 A11 A12 p ∧ p.emit.length ≤ c7
theorem lce_int : Tryz.prog.cellsOf 3 = 1 := by kernel_rfl
theorem lce_uint64 : Tryz.prog.cellsOf 58 = 1 := by kernel_rfl
theorem lce_uint8 : Tryz.prog.cellsOf 5 = 1 := by kernel_rfl
theorem lce_string : Tryz.prog.cellsOf 9 = 1 := by kernel_rfl
theorem lce_Num : Tryz.prog.cellsOf 60 = 2 := by kernel_rfl
theorem lce_Node : Tryz.prog.cellsOf 79 = 6 := by kernel_rfl
theorem lce_Code : Tryz.prog.cellsOf 35 = 1 := by kernel_rfl
theorem lce_Inst : Tryz.prog.cellsOf 105 = 5 := by kernel_rfl
theorem lce_Pat : Tryz.prog.cellsOf 125 = 4 := by kernel_rfl
theorem lce_Branch : Tryz.prog.cellsOf 52 = 2 := by kernel_rfl
theorem lce_Step : Tryz.prog.cellsOf 49 = 4 := by kernel_rfl
theorem lce_Act : Tryz.prog.cellsOf 54 = 2 := by kernel_rfl
theorem lce_Run : Tryz.prog.cellsOf 38 = 2 := by kernel_rfl
theorem lce_Tab : Tryz.prog.cellsOf 57 = 5 := by kernel_rfl
theorem lce_Names : Tryz.prog.cellsOf 31 = 5 := by kernel_rfl
theorem lce_Prog : Tryz.prog.cellsOf 33 = 12 := by kernel_rfl
theorem lce_sint : Tryz.prog.cellsOf 23 = 1 := by kernel_rfl
theorem lce_ssint : Tryz.prog.cellsOf 22 = 1 := by kernel_rfl
theorem lce_sNum : Tryz.prog.cellsOf 36 = 1 := by kernel_rfl
theorem lce_sCode : Tryz.prog.cellsOf 46 = 1 := by kernel_rfl
theorem lce_suint8 : Tryz.prog.cellsOf 55 = 1 := by kernel_rfl
theorem lce_sstring : Tryz.prog.cellsOf 28 = 1 := by kernel_rfl
theorem lce_ssstring : Tryz.prog.cellsOf 29 = 1 := by kernel_rfl
theorem lce_sInst : Tryz.prog.cellsOf 27 = 1 := by kernel_rfl
theorem lce_sPat : Tryz.prog.cellsOf 50 = 1 := by kernel_rfl
theorem lce_sBranch : Tryz.prog.cellsOf 47 = 1 := by kernel_rfl
theorem lce_sStep : Tryz.prog.cellsOf 24 = 1 := by kernel_rfl
theorem lce_sAct : Tryz.prog.cellsOf 25 = 1 := by kernel_rfl
theorem lce_sTab : Tryz.prog.cellsOf 26 = 1 := by kernel_rfl
set_option maxRecDepth 20000 in
theorem lrd_Num {m : Nat} (hm : m ≤ sm) : RdB m 60 rNu := fun H enc w fuel cs x h hb => by
 obtain ⟨xs, n, _, rfl, hl, hlen, hg⟩ := DataW.trod_struct Tryz.underlying60 h
 rw [lce_Num] at hl
 match xs, hlen with
 | [y0, y1], _ =>
  simp only [List.map_cons, List.map_nil, Rows.uptoBulk, Rows.uptoBulkAll] at hb
  have p0 := bulk_pos y0.1
  have p1 := bulk_pos y1.1
  match cs, hl with
  | [a0, a1], _ =>
   obtain ⟨v0, e0, h0⟩ := lrd_u64 (m := m) H enc w n [a0] y0 (by simpa [lce_uint64] using hg 0 _ rfl) (by omega)
   obtain ⟨v1, e1, h1⟩ := lrd_u64 (m := m) H enc w n [a1] y1 (by simpa [lce_uint64] using hg 1 _ rfl) (by omega)
   cases e0
   cases e1
   exact ⟨(v0, v1), rfl, h0, h1⟩
set_option maxRecDepth 20000 in
theorem lrd_Node {m : Nat} (hm : m ≤ sm) : RdB m 79 rNd := fun H enc w fuel cs x h hb => by
 obtain ⟨xs, n, _, rfl, hl, hlen, hg⟩ := DataW.trod_struct Tryz.underlying79 h
 rw [lce_Node] at hl
 match xs, hlen with
 | [y0, y1, y2, y3, y4], _ =>
  simp only [List.map_cons, List.map_nil, Rows.uptoBulk, Rows.uptoBulkAll] at hb
  have p0 := bulk_pos y0.1
  have p1 := bulk_pos y1.1
  have p2 := bulk_pos y2.1
  have p3 := bulk_pos y3.1
  have p4 := bulk_pos y4.1
  match cs, hl with
  | [a0, a1, a2, a3, a4, a5], _ =>
   obtain ⟨v0, e0, h0⟩ := lrd_u8 (m := m) H enc w n [a0] y0 (by simpa [lce_uint8] using hg 0 _ rfl) (by omega)
   obtain ⟨v1, e1⟩ := lrd_int (m := m) H enc w n [a1] y1 (by simpa [lce_int] using hg 1 _ rfl) (by omega)
   obtain ⟨v2, e2⟩ := lrd_int (m := m) H enc w n [a2] y2 (by simpa [lce_int] using hg 2 _ rfl) (by omega)
   obtain ⟨v3, e3⟩ := lrd_int (m := m) H enc w n [a3] y3 (by simpa [lce_int] using hg 3 _ rfl) (by omega)
   obtain ⟨v4, e4, h4, k4⟩ := lrd_Num hm H enc w n [a4, a5] y4 (by simpa [lce_Num] using hg 4 _ rfl) (by omega)
   cases e0
   cases e1
   cases e2
   cases e3
   cases e4
   exact ⟨⟨v0, v1, v2, v3, v4.1, v4.2⟩, rfl, h0, h4, k4⟩
theorem lrd_Code {m : Nat} (hm : m ≤ sm) : RdB m 35 rCd := lrd_sl (m := m) (t := 35) (e := 79) (k := 6) Tryz.underlying35 lce_Node (by decide) (lrd_Node hm)
theorem lrd_ints {m : Nat} : RdB m 23 (rSl 1 rInt) := lrd_sl (m := m) (t := 23) (e := 3) (k := 1) Tryz.underlying23 lce_int (by decide) lrd_int
theorem lrd_strs {m : Nat} : RdB m 28 (rSl 1 rStr) := lrd_sl (m := m) (t := 28) (e := 9) (k := 1) Tryz.underlying28 lce_string (by decide) lrd_str
set_option maxRecDepth 20000 in
theorem lrd_Inst {m : Nat} (hm : m ≤ sm) : RdB m 105 rIns := fun H enc w fuel cs x h hb => by
 obtain ⟨xs, n, _, rfl, hl, hlen, hg⟩ := DataW.trod_struct Tryz.underlying105 h
 rw [lce_Inst] at hl
 match xs, hlen with
 | [y0, y1, y2, y3, y4], _ =>
  simp only [List.map_cons, List.map_nil, Rows.uptoBulk, Rows.uptoBulkAll] at hb
  have p0 := bulk_pos y0.1
  have p1 := bulk_pos y1.1
  have p2 := bulk_pos y2.1
  have p3 := bulk_pos y3.1
  have p4 := bulk_pos y4.1
  match cs, hl with
  | [a0, a1, a2, a3, a4], _ =>
   obtain ⟨v0, e0, h0⟩ := lrd_u8 (m := m) H enc w n [a0] y0 (by simpa [lce_uint8] using hg 0 _ rfl) (by omega)
   obtain ⟨v1, e1⟩ := lrd_int (m := m) H enc w n [a1] y1 (by simpa [lce_int] using hg 1 _ rfl) (by omega)
   obtain ⟨v2, e2⟩ := lrd_int (m := m) H enc w n [a2] y2 (by simpa [lce_int] using hg 2 _ rfl) (by omega)
   obtain ⟨v3, A3, c3, e3, h3⟩ := lrd_Code hm H enc w n [a3] y3 (by simpa [lce_Code] using hg 3 _ rfl) (by omega)
   obtain ⟨v4, e4⟩ := lrd_int (m := m) H enc w n [a4] y4 (by simpa [lce_int] using hg 4 _ rfl) (by omega)
   cases e0
   cases e1
   cases e2
   cases e3
   cases e4
   exact ⟨⟨v0, v1, v2, v3, v4⟩, A3, c3, rfl, h3⟩
set_option maxRecDepth 20000 in
theorem lrd_Pat {m : Nat} (hm : m ≤ sm) : RdB m 125 rPt := fun H enc w fuel cs x h hb => by
 obtain ⟨xs, n, _, rfl, hl, hlen, hg⟩ := DataW.trod_struct Tryz.underlying125 h
 rw [lce_Pat] at hl
 match xs, hlen with
 | [y0, y1], _ =>
  simp only [List.map_cons, List.map_nil, Rows.uptoBulk, Rows.uptoBulkAll] at hb
  have p0 := bulk_pos y0.1
  have p1 := bulk_pos y1.1
  match cs, hl with
  | [a0, a1, a2, a3], _ =>
   obtain ⟨v0, e0, h0, k0⟩ := lrd_Num hm H enc w n [a0, a1] y0 (by simpa [lce_Num] using hg 0 _ rfl) (by omega)
   obtain ⟨v1, e1, h1, k1⟩ := lrd_Num hm H enc w n [a2, a3] y1 (by simpa [lce_Num] using hg 1 _ rfl) (by omega)
   cases e0
   cases e1
   exact ⟨⟨v0.1, v0.2, v1.1, v1.2⟩, rfl, h0, k0, h1, k1⟩
set_option maxRecDepth 20000 in
theorem lrd_Branch {m : Nat} (hm : m ≤ sm) : RdB m 52 rBr := fun H enc w fuel cs x h hb => by
 obtain ⟨xs, n, _, rfl, hl, hlen, hg⟩ := DataW.trod_struct Tryz.underlying52 h
 rw [lce_Branch] at hl
 match xs, hlen with
 | [y0, y1], _ =>
  simp only [List.map_cons, List.map_nil, Rows.uptoBulk, Rows.uptoBulkAll] at hb
  have p0 := bulk_pos y0.1
  have p1 := bulk_pos y1.1
  match cs, hl with
  | [a0, a1], _ =>
   obtain ⟨v0, A0, c0, e0, h0⟩ := lrd_sl (m := m) (t := 50) (e := 125) (k := 4) Tryz.underlying50 lce_Pat (by decide) (lrd_Pat hm) H enc w n [a0] y0 (by simpa [lce_sPat] using hg 0 _ rfl) (by omega)
   obtain ⟨v1, e1⟩ := lrd_int (m := m) H enc w n [a1] y1 (by simpa [lce_int] using hg 1 _ rfl) (by omega)
   cases e0
   cases e1
   exact ⟨⟨v0, v1⟩, A0, c0, rfl, h0⟩
set_option maxRecDepth 20000 in
theorem lrd_Step {m : Nat} (hm : m ≤ sm) : RdB m 49 rStp := fun H enc w fuel cs x h hb => by
 obtain ⟨xs, n, _, rfl, hl, hlen, hg⟩ := DataW.trod_struct Tryz.underlying49 h
 rw [lce_Step] at hl
 match xs, hlen with
 | [y0, y1, y2, y3], _ =>
  simp only [List.map_cons, List.map_nil, Rows.uptoBulk, Rows.uptoBulkAll] at hb
  have p0 := bulk_pos y0.1
  have p1 := bulk_pos y1.1
  have p2 := bulk_pos y2.1
  have p3 := bulk_pos y3.1
  match cs, hl with
  | [a0, a1, a2, a3], _ =>
   obtain ⟨v0, A0, c0, e0, h0⟩ := lrd_ints (m := m) H enc w n [a0] y0 (by simpa [lce_sint] using hg 0 _ rfl) (by omega)
   obtain ⟨v1, A1, c1, e1, h1, g1, k1⟩ := lrd_slice (m := m) (t := 46) (e := 35) (k := 1) Tryz.underlying46 lce_Code (by decide) (lrd_Code hm) H enc w n [a1] y1 (by simpa [lce_sCode] using hg 1 _ rfl) (by omega)
   obtain ⟨v2, A2, c2, e2, h2⟩ := lrd_sl (m := m) (t := 47) (e := 52) (k := 2) Tryz.underlying47 lce_Branch (by decide) (lrd_Branch hm) H enc w n [a2] y2 (by simpa [lce_sBranch] using hg 2 _ rfl) (by omega)
   obtain ⟨v3, e3⟩ := lrd_int (m := m) H enc w n [a3] y3 (by simpa [lce_int] using hg 3 _ rfl) (by omega)
   cases e0
   cases e1
   cases e2
   cases e3
   exact ⟨⟨v0, v1, v2, v3⟩, A0, A1, A2, c0, c1, c2, rfl, h0, h1, h2, Nat.le_trans k1 hm⟩
set_option maxRecDepth 20000 in
theorem lrd_Act {m : Nat} (hm : m ≤ sm) : RdB m 54 rLac := fun H enc w fuel cs x h hb => by
 obtain ⟨xs, n, _, rfl, hl, hlen, hg⟩ := DataW.trod_struct Tryz.underlying54 h
 rw [lce_Act] at hl
 match xs, hlen with
 | [y0, y1], _ =>
  simp only [List.map_cons, List.map_nil, Rows.uptoBulk, Rows.uptoBulkAll] at hb
  have p0 := bulk_pos y0.1
  have p1 := bulk_pos y1.1
  match cs, hl with
  | [a0, a1], _ =>
   obtain ⟨v0, A0, c0, e0, h0⟩ := lrd_ints (m := m) H enc w n [a0] y0 (by simpa [lce_sint] using hg 0 _ rfl) (by omega)
   obtain ⟨v1, A1, c1, e1, h1⟩ := lrd_sl (m := m) (t := 27) (e := 105) (k := 5) Tryz.underlying27 lce_Inst (by decide) (lrd_Inst hm) H enc w n [a1] y1 (by simpa [lce_sInst] using hg 1 _ rfl) (by omega)
   cases e0
   cases e1
   exact ⟨⟨v0, v1⟩, A0, A1, c0, c1, rfl, h0, h1⟩
set_option maxRecDepth 20000 in
theorem lrd_Run {m : Nat} (hm : m ≤ sm) : RdB m 38 rRn := fun H enc w fuel cs x h hb => by
 obtain ⟨xs, n, _, rfl, hl, hlen, hg⟩ := DataW.trod_struct Tryz.underlying38 h
 rw [lce_Run] at hl
 match xs, hlen with
 | [y0, y1], _ =>
  simp only [List.map_cons, List.map_nil, Rows.uptoBulk, Rows.uptoBulkAll] at hb
  have p0 := bulk_pos y0.1
  have p1 := bulk_pos y1.1
  match cs, hl with
  | [a0, a1], _ =>
   obtain ⟨v0, e0⟩ := lrd_int (m := m) H enc w n [a0] y0 (by simpa [lce_int] using hg 0 _ rfl) (by omega)
   obtain ⟨v1, A1, c1, e1, h1⟩ := lrd_sl (m := m) (t := 36) (e := 60) (k := 2) Tryz.underlying36 lce_Num (by decide) (lrd_Num hm) H enc w n [a1] y1 (by simpa [lce_sNum] using hg 1 _ rfl) (by omega)
   cases e0
   cases e1
   exact ⟨⟨v0, v1⟩, A1, c1, rfl, h1⟩
set_option maxRecDepth 20000 in
theorem lrd_Tab {m : Nat} (hm : m ≤ sm) : RdB m 57 rLtb := fun H enc w fuel cs x h hb => by
 obtain ⟨xs, n, _, rfl, hl, hlen, hg⟩ := DataW.trod_struct Tryz.underlying57 h
 rw [lce_Tab] at hl
 match xs, hlen with
 | [y0, y1, y2, y3], _ =>
  simp only [List.map_cons, List.map_nil, Rows.uptoBulk, Rows.uptoBulkAll] at hb
  have p0 := bulk_pos y0.1
  have p1 := bulk_pos y1.1
  have p2 := bulk_pos y2.1
  have p3 := bulk_pos y3.1
  match cs, hl with
  | [a0, a1, a2, a3, a4], _ =>
   obtain ⟨v0, A0, c0, e0, h0, g0, k0⟩ := lrd_slice (m := m) (t := 46) (e := 35) (k := 1) Tryz.underlying46 lce_Code (by decide) (lrd_Code hm) H enc w n [a0] y0 (by simpa [lce_sCode] using hg 0 _ rfl) (by omega)
   obtain ⟨v1, A1, c1, e1, h1⟩ := lrd_sl (m := m) (t := 55) (e := 5) (k := 1) Tryz.underlying55 lce_uint8 (by decide) lrd_k H enc w n [a1] y1 (by simpa [lce_suint8] using hg 1 _ rfl) (by omega)
   obtain ⟨v2, A2, c2, e2, h2, g2, k2⟩ := lrd_slice (m := m) (t := 23) (e := 3) (k := 1) Tryz.underlying23 lce_int (by decide) lrd_int H enc w n [a2] y2 (by simpa [lce_sint] using hg 2 _ rfl) (by omega)
   obtain ⟨v3, A3, c3, e3, h3⟩ := lrd_Run hm H enc w n [a3, a4] y3 (by simpa [lce_Run] using hg 3 _ rfl) (by omega)
   cases e0
   cases e1
   cases e2
   cases e3
   exact ⟨⟨v0, v1, v2, v3⟩, A0, A1, A2, A3, c0, c1, c2, c3, rfl, h0, h1, h2, h3, Nat.le_trans k0 hm, g2⟩
set_option maxRecDepth 20000 in
theorem lrd_Names {m : Nat} (hm : m ≤ sm) : RdB m 31 rNms := fun H enc w fuel cs x h hb => by
 obtain ⟨xs, n, _, rfl, hl, hlen, hg⟩ := DataW.trod_struct Tryz.underlying31 h
 rw [lce_Names] at hl
 match xs, hlen with
 | [y0, y1, y2, y3, y4], _ =>
  simp only [List.map_cons, List.map_nil, Rows.uptoBulk, Rows.uptoBulkAll] at hb
  have p0 := bulk_pos y0.1
  have p1 := bulk_pos y1.1
  have p2 := bulk_pos y2.1
  have p3 := bulk_pos y3.1
  have p4 := bulk_pos y4.1
  match cs, hl with
  | [a0, a1, a2, a3, a4], _ =>
   obtain ⟨v0, A0, c0, e0, h0⟩ := lrd_strs (m := m) H enc w n [a0] y0 (by simpa [lce_sstring] using hg 0 _ rfl) (by omega)
   obtain ⟨v1, A1, c1, e1, h1⟩ := lrd_sl (m := m) (t := 29) (e := 28) (k := 1) Tryz.underlying29 lce_sstring (by decide) (lrd_strs (m := m)) H enc w n [a1] y1 (by simpa [lce_ssstring] using hg 1 _ rfl) (by omega)
   obtain ⟨v2, A2, c2, e2, h2⟩ := lrd_strs (m := m) H enc w n [a2] y2 (by simpa [lce_sstring] using hg 2 _ rfl) (by omega)
   obtain ⟨v3, A3, c3, e3, h3⟩ := lrd_strs (m := m) H enc w n [a3] y3 (by simpa [lce_sstring] using hg 3 _ rfl) (by omega)
   obtain ⟨v4, A4, c4, e4, h4⟩ := lrd_strs (m := m) H enc w n [a4] y4 (by simpa [lce_sstring] using hg 4 _ rfl) (by omega)
   cases e0
   cases e1
   cases e2
   cases e3
   cases e4
   exact ⟨⟨v0, v1, v2, v3, v4⟩, A0, A1, A2, A3, A4, c0, c1, c2, c3, c4, rfl, h0, h1, h2, h3, h4⟩
set_option maxRecDepth 20000 in
theorem lrd_Prog {m : Nat} (hm : m ≤ sm) : RdB m 33 rLp := fun H enc w fuel cs x h hb => by
 obtain ⟨xs, n, _, rfl, hl, hlen, hg⟩ := DataW.trod_struct Tryz.underlying33 h
 rw [lce_Prog] at hl
 match xs, hlen with
 | [y0, y1, y2, y3, y4, y5, y6, y7], _ =>
  simp only [List.map_cons, List.map_nil, Rows.uptoBulk, Rows.uptoBulkAll] at hb
  have p0 := bulk_pos y0.1
  have p1 := bulk_pos y1.1
  have p2 := bulk_pos y2.1
  have p3 := bulk_pos y3.1
  have p4 := bulk_pos y4.1
  have p5 := bulk_pos y5.1
  have p6 := bulk_pos y6.1
  have p7 := bulk_pos y7.1
  match cs, hl with
  | [a0, a1, a2, a3, a4, a5, a6, a7, a8, a9, a10, a11], _ =>
   obtain ⟨v0, A0, c0, e0, h0⟩ := lrd_sl (m := m) (t := 22) (e := 23) (k := 1) Tryz.underlying22 lce_sint (by decide) (lrd_ints (m := m)) H enc w n [a0] y0 (by simpa [lce_ssint] using hg 0 _ rfl) (by omega)
   obtain ⟨v1, A1, c1, e1, h1⟩ := lrd_ints (m := m) H enc w n [a1] y1 (by simpa [lce_sint] using hg 1 _ rfl) (by omega)
   obtain ⟨v2, A2, c2, e2, h2⟩ := lrd_sl (m := m) (t := 24) (e := 49) (k := 4) Tryz.underlying24 lce_Step (by decide) (lrd_Step hm) H enc w n [a2] y2 (by simpa [lce_sStep] using hg 2 _ rfl) (by omega)
   obtain ⟨v3, A3, c3, e3, h3⟩ := lrd_sl (m := m) (t := 25) (e := 54) (k := 2) Tryz.underlying25 lce_Act (by decide) (lrd_Act hm) H enc w n [a3] y3 (by simpa [lce_sAct] using hg 3 _ rfl) (by omega)
   obtain ⟨v4, A4, c4, e4, h4⟩ := lrd_sl (m := m) (t := 26) (e := 57) (k := 5) Tryz.underlying26 lce_Tab (by decide) (lrd_Tab hm) H enc w n [a4] y4 (by simpa [lce_sTab] using hg 4 _ rfl) (by omega)
   obtain ⟨v5, A5, c5, e5, h5⟩ := lrd_sl (m := m) (t := 27) (e := 105) (k := 5) Tryz.underlying27 lce_Inst (by decide) (lrd_Inst hm) H enc w n [a5] y5 (by simpa [lce_sInst] using hg 5 _ rfl) (by omega)
   obtain ⟨v6, A6, c6, e6, h6, g6, k6⟩ := lrd_slice (m := m) (t := 23) (e := 3) (k := 1) Tryz.underlying23 lce_int (by decide) lrd_int H enc w n [a6] y6 (by simpa [lce_sint] using hg 6 _ rfl) (by omega)
   obtain ⟨v7, A8, A9, A10, A11, A12, c8, c9, c10, c11, c12, e7, s8, s9, s10, s11, s12⟩ := lrd_Names hm H enc w n [a7, a8, a9, a10, a11] y7 (by simpa [lce_Names] using hg 7 _ rfl) (by omega)
   cases e0
   cases e1
   cases e2
   cases e3
   cases e4
   cases e5
   cases e6
   cases e7
   exact ⟨⟨v0, v1, v2, v3, v4, v5, v6, v7.nh, v7.nf, v7.nm, v7.na, v7.nt⟩, A0, A1, A2, A3, A4, A5, A6, A8, A9, A10, A11, A12, c0, c1, c2, c3, c4, c5, c6, c8, c9, c10, c11, c12, rfl, ⟨h0, h1, h2, h3, h4, h5, h6, s8, s9, s10, s11, s12⟩, g6⟩
/-- A code that reads holds operations that are bytes. -/
theorem okC_of {w : World} {B : Nat} {A : Option Addr} {c : List Nd} (h : Sl 6 rNd w B A c) : okC c := fun n hn => by
 obtain ⟨i, hi, rfl⟩ := List.getElem_of_mem hn
 obtain ⟨_, _, _, _, _, _, _, _, h1, _⟩ := h.2 i _ (List.getElem?_eq_getElem hi)
 exact h1.1
theorem okCs_of {w : World} {B : Nat} {A : Option Addr} {l : List (List Nd)} (h : Sl 1 rCd w B A l) : ∀ c ∈ l, okC c := fun c hc => by
 obtain ⟨i, hi, rfl⟩ := List.getElem_of_mem hc
 obtain ⟨_, _, _, _, _, _, _, A', cap, _, hs⟩ := h.2 i _ (List.getElem?_eq_getElem hi)
 exact okC_of hs
theorem okI_of {w : World} {B : Nat} {A : Option Addr} {l : List Ins} (h : Sl 5 rIns w B A l) : ∀ x ∈ l, okC x.e := fun x hx => by
 obtain ⟨i, hi, rfl⟩ := List.getElem_of_mem hx
 obtain ⟨_, _, _, _, _, _, _, A', cap, _, hs⟩ := h.2 i _ (List.getElem?_eq_getElem hi)
 exact okC_of hs
theorem okP_of {w : World} {B : Nat} (A1 A2 A3 A4 A5 A6 A7 A8 A9 A10 A11 A12 : Option Addr) (p : Lp) (c1 c2 c3 c4 c5 c6 c7 c8 c9 c10 c11 c12 : Nat) (h : LpS w B A1 A2 A3 A4 A5 A6 A7 A8 A9 A10 A11 A12 p) : OkP p := by
 refine ⟨okI_of h.control, fun a ha => ?_, fun s hs => ?_, fun t ht => ?_⟩
 ·obtain ⟨i, hi, rfl⟩ := List.getElem_of_mem ha
  obtain ⟨_, _, _, _, _, _, _, _, _, _, _, _, _, h2⟩ := h.acts.2 i _ (List.getElem?_eq_getElem hi)
  exact okI_of h2
 ·obtain ⟨i, hi, rfl⟩ := List.getElem_of_mem hs
  obtain ⟨_, _, _, _, _, _, _, _, _, _, _, _, _, _, _, h2, _⟩ := h.steps.2 i _ (List.getElem?_eq_getElem hi)
  exact okCs_of h2
 ·obtain ⟨i, hi, rfl⟩ := List.getElem_of_mem ht
  obtain ⟨_, _, _, _, _, _, _, _, _, _, _, _, _, _, _, _, h1, _⟩ := h.tabs.2 i _ (List.getElem?_eq_getElem hi)
  exact okCs_of h1
end Go.Proofs.YtmfpbahifhndjaaGreat

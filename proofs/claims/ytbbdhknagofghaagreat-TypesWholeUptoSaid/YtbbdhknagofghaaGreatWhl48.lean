import Derived.Test.YtbbdhknagofghaaGreatWhl01
import Derived.Test.YtbbdhknagofghaaGreatWhl47
import Derived.Test.YtbbdhknagofghaaGreatWhl33
import Derived.Test.YtbbdhknagofghaaGreatWhl42
set_option linter.all false
/-! Openers where a reading is of so small a bulk: trees as they lie. -/
namespace Go.Proofs.YtbbdhknagofghaaGreat
open Go.ChangeShapes Go.WideShapes Go.ChangeAt Go.RowKit Go.Deep
/-- Whatever reads as data of type t, of bulk at most m, reads as R. -/
def RdB {α : Type} (m : Nat) (t : TypeId) (R : CR α) : Prop :=
 ∀ (H : Type) (enc : TypeId × Value → H) (w : World) (fuel : Nat) (cs : List Value) (x : DataW H × List MemPlace), DataW.trod enc Tryz.prog w 0 (fun _ => true) true fuel t cs = some x → Rows.uptoBulk x.1 ≤ m → ∃ a, R w w.heap.size cs a
theorem rdb_le {α : Type} {m m' : Nat} {t : TypeId} {R : CR α} (hm : m' ≤ m) (h : RdB m t R) : RdB m' t R := fun H enc w fuel cs x hx hb => h H enc w fuel cs x hx (by omega)
theorem bulk_mem {H : Type} {d : DataW H} : ∀ {l : List (DataW H)}, d ∈ l → Rows.uptoBulk d ≤ Rows.uptoBulkAll l
 | [], h => by simp at h
 | y :: l, h => by
  simp only [Rows.uptoBulkAll]
  rcases List.mem_cons.1 h with rfl | h
  ·omega
  ·have := bulk_mem h; omega
/-- Strings are as short as their bulk. -/
def rStrM (m : Nat) : CR ByteArray := fun _ _ cs s => cs = [.string s] ∧ s.size ≤ maxLen ∧ s.size ≤ m
theorem rdb_str {m : Nat} {t : TypeId} (ht : Tryz.prog.underlying t = some .string) : RdB m t (rStrM m) := fun _ _ _ _ _ _ h hb => by
 obtain ⟨s, rfl, hx, hs⟩ := DataW.trod_string ht h
 refine ⟨s, rfl, hs, ?_⟩
 rw [hx] at hb
 simp only [Rows.uptoBulk] at hb
 have : s.data.toList.length = s.size := rfl
 omega
theorem rdb_slice {α : Type} {R : CR α} {t e : TypeId} {k m : Nat} (ht : Tryz.prog.underlying t = some (.slice e)) (hk : Tryz.prog.cellsOf e = k) (hk0 : 0 < k) (he : RdB m e R) : RdB (m + 1) t (rSl k R) := fun H enc w fuel cs x h hb => by
 rcases open_slice ht h with ⟨rfl, _⟩ | ⟨a, len, cap, mm, n, D, Pl, rfl, _, hl, hm, hmm, hxx, hx⟩
 ·exact ⟨[], none, 0, rfl, Sl.nil_⟩
 ·simp only [if_true] at hmm
  subst hmm
  have hbD : ∀ i, i < len → Rows.uptoBulk (D i) ≤ m := fun i hi => by
   rw [hxx] at hb
   simp only [Rows.uptoBulk] at hb
   have := bulk_mem (d := D i) (l := (List.range len).map D) (List.mem_map.2 ⟨i, List.mem_range.2 hi, rfl⟩)
   omega
  obtain ⟨xs, hlen, hxs⟩ := exists_list (p := fun i y => ∃ ecs : List Value, ecs.length = k ∧ (∀ j, j < k → w.cell? ((a.add (i * k)).add j) = ecs[j]?) ∧ R w w.heap.size ecs y) len (fun i hi => by
   obtain ⟨cs', hc, htr⟩ := hx i (by omega)
   rw [hk] at hc
   obtain ⟨_, h1, h2⟩ := World.cells?_some hc
   obtain ⟨y, hy⟩ := he H enc w n cs' _ htr (hbD i hi)
   exact ⟨y, cs', h1, h2, hy⟩)
  refine ⟨xs, some a, mm, by rw [hlen], by omega, fun i y hy => ?_⟩
  have hi : i < len := by rw [← hlen]; exact (List.getElem?_eq_some_iff.1 hy).1
  obtain ⟨ecs0, g1, g2, _⟩ := hxs 0 (xs[0]'(by omega)) (List.getElem?_eq_getElem (by omega))
  have hz : w.cell? a = some (ecs0[0]'(by omega)) := by
   have := g2 0 hk0
   rw [List.getElem?_eq_getElem (by omega)] at this
   simpa [Addr.add] using this
  obtain ⟨b, o, rfl⟩ := addr_spot hz
  have hb := World.block_lt_of_cell? w _ hz
  obtain ⟨ecs, h1, h2, h3⟩ := hxs i y hy
  have hadd : ∀ j, ((⟨b, o, none⟩ : Addr).add (i * k)).add j = ⟨b, o + i * k + j, none⟩ := fun j => by unfold Addr.add; split <;> split <;> simp_all
  refine ⟨b, o, ecs, rfl, hb, h1, fun j u hu => ?_, h3⟩
  have hj : j < k := by have := (List.getElem?_eq_some_iff.1 hu).1; omega
  rw [← hadd j, h2 j hj, hu]
theorem bulk_pos {H : Type} (d : DataW H) : 1 ≤ Rows.uptoBulk d := by
 cases d with
 | lit l => cases l <;> simp [Rows.uptoBulk]
 | _ => simp [Rows.uptoBulk]
theorem Sl.imp {α : Type} {R R' : CR α} {k : Nat} {w : World} {B : Nat} {A : Option Addr} {xs : List α} (h : Sl k R w B A xs) (hi : ∀ cs x, R w B cs x → R' w B cs x) : Sl k R' w B A xs :=
 ⟨h.1, fun i x hx => by
  obtain ⟨b, o, ecs, h1, h2, h3, h4, h5⟩ := h.2 i x hx
  exact ⟨b, o, ecs, h1, h2, h3, h4, hi _ _ h5⟩⟩
end Go.Proofs.YtbbdhknagofghaaGreat
/-! Printed by gen_open.py. Openers: each type of a program, where its reading is of bulk at most sm. -/
namespace Go.Proofs.YtbbdhknagofghaaGreat
open Go.ChangeShapes Go.WideShapes Go.ChangeAt Go.RowKit Go.Deep
theorem wf_i64 {n : Int} (h : (Lit.int .i64 n).wf = true) : i64 n := by
 simp [Lit.wf, IntKind.min, IntKind.max, IntKind.signed, IntKind.bits] at h
 unfold i64; omega
theorem wf_u64 {n : Int} (h : (Lit.int .u64 n).wf = true) : u64 n := by
 simp [Lit.wf, IntKind.min, IntKind.max, IntKind.signed, IntKind.bits] at h
 unfold u64; omega
theorem wf_u8 {n : Int} (h : (Lit.int .u8 n).wf = true) : u8 n := by
 simp [Lit.wf, IntKind.min, IntKind.max, IntKind.signed, IntKind.bits] at h
 unfold u8; omega
def rI64 : CR Int := fun _ _ cs n => cs = [.int .i64 n] ∧ i64 n
def rU64 : CR Int := fun _ _ cs n => cs = [.int .u64 n] ∧ u64 n
def rU8 : CR Int := fun _ _ cs n => cs = [.int .u8 n] ∧ u8 n
def rBl : CR Bool := fun _ _ cs b => cs = [.bool b]
theorem rdb_i64 {m : Nat} {t : TypeId} (ht : Tryz.prog.underlying t = some (.int .i64)) : RdB m t rI64 := fun _ _ _ _ _ _ h _ => by
 obtain ⟨n, rfl, _, hw⟩ := DataW.trod_int ht h
 exact ⟨n, rfl, wf_i64 hw⟩
theorem rdb_u64 {m : Nat} {t : TypeId} (ht : Tryz.prog.underlying t = some (.int .u64)) : RdB m t rU64 := fun _ _ _ _ _ _ h _ => by
 obtain ⟨n, rfl, _, hw⟩ := DataW.trod_int ht h
 exact ⟨n, rfl, wf_u64 hw⟩
theorem rdb_u8 {m : Nat} {t : TypeId} (ht : Tryz.prog.underlying t = some (.int .u8)) : RdB m t rU8 := fun _ _ _ _ _ _ h _ => by
 obtain ⟨n, rfl, _, hw⟩ := DataW.trod_int ht h
 exact ⟨n, rfl, wf_u8 hw⟩
theorem rdb_bl {m : Nat} {t : TypeId} (ht : Tryz.prog.underlying t = some .bool) : RdB m t rBl := fun _ _ _ _ _ _ h _ => by
 obtain ⟨b, rfl, _⟩ := DataW.trod_bool ht h
 exact ⟨b, rfl⟩
theorem rdb_slice' {α : Type} {R : CR α} {t e : TypeId} {k m : Nat} (ht : Tryz.prog.underlying t = some (.slice e)) (hk : Tryz.prog.cellsOf e = k) (hk0 : 0 < k) (he : RdB m e R) : RdB m t (rSl k R) := rdb_le (Nat.le_succ m) (rdb_slice ht hk hk0 he)
theorem rdb_strs {m : Nat} {t : TypeId} (ht : Tryz.prog.underlying t = some .string) : RdB m t rStr := fun H enc w fuel cs x h hb => by
 obtain ⟨s, e0, h0, -⟩ := rdb_str ht H enc w fuel cs x h hb
 exact ⟨s, e0, h0⟩
theorem ce_int : Tryz.prog.cellsOf 3 = 1 := by kernel_rfl
theorem ce_uint64 : Tryz.prog.cellsOf 38 = 1 := by kernel_rfl
theorem ce_uint8 : Tryz.prog.cellsOf 5 = 1 := by kernel_rfl
theorem ce_bool : Tryz.prog.cellsOf 4 = 1 := by kernel_rfl
theorem ce_string : Tryz.prog.cellsOf 9 = 1 := by kernel_rfl
theorem ce_Num : Tryz.prog.cellsOf 40 = 2 := by kernel_rfl
theorem ce_Lit : Tryz.prog.cellsOf 42 = 3 := by kernel_rfl
theorem ce_Field : Tryz.prog.cellsOf 84 = 2 := by kernel_rfl
theorem ce_Header : Tryz.prog.cellsOf 66 = 2 := by kernel_rfl
theorem ce_Set : Tryz.prog.cellsOf 97 = 7 := by kernel_rfl
theorem ce_Case : Tryz.prog.cellsOf 70 = 3 := by kernel_rfl
theorem ce_State : Tryz.prog.cellsOf 61 = 5 := by kernel_rfl
theorem ce_Action : Tryz.prog.cellsOf 72 = 3 := by kernel_rfl
theorem ce_Key : Tryz.prog.cellsOf 52 = 10 := by kernel_rfl
theorem ce_Call : Tryz.prog.cellsOf 56 = 2 := by kernel_rfl
theorem ce_Table : Tryz.prog.cellsOf 58 = 5 := by kernel_rfl
theorem ce_Expr : Tryz.prog.cellsOf 45 = 9 := by kernel_rfl
theorem ce_Stmt : Tryz.prog.cellsOf 47 = 14 := by kernel_rfl
theorem ce_Program : Tryz.prog.cellsOf 30 = 7 := by kernel_rfl
theorem ce_sField : Tryz.prog.cellsOf 23 = 1 := by kernel_rfl
theorem ce_sSet : Tryz.prog.cellsOf 68 = 1 := by kernel_rfl
theorem ce_sExpr : Tryz.prog.cellsOf 43 = 1 := by kernel_rfl
theorem ce_sStmt : Tryz.prog.cellsOf 27 = 1 := by kernel_rfl
theorem ce_sLit : Tryz.prog.cellsOf 54 = 1 := by kernel_rfl
theorem ce_sKey : Tryz.prog.cellsOf 53 = 1 := by kernel_rfl
theorem ce_sstring : Tryz.prog.cellsOf 28 = 1 := by kernel_rfl
theorem ce_sCase : Tryz.prog.cellsOf 59 = 1 := by kernel_rfl
theorem ce_sHeader : Tryz.prog.cellsOf 22 = 1 := by kernel_rfl
theorem ce_sState : Tryz.prog.cellsOf 24 = 1 := by kernel_rfl
theorem ce_sAction : Tryz.prog.cellsOf 25 = 1 := by kernel_rfl
theorem ce_sTable : Tryz.prog.cellsOf 26 = 1 := by kernel_rfl
def rNum : CR (Int × Int) := fun _ _ cs x => cs = [.int .u64 x.1, .int .u64 x.2] ∧ u64 x.1 ∧ u64 x.2
set_option maxRecDepth 20000 in
theorem rdb_Num {m : Nat} (hm : m ≤ sm) : RdB m 40 rNum := fun H enc w fuel cs x h hb => by
 obtain ⟨xs, n, _, rfl, hl, hlen, hg⟩ := DataW.trod_struct Tryz.underlying40 h
 rw [ce_Num] at hl
 match xs, hlen with
 | [y0, y1], _ =>
  simp only [List.map_cons, List.map_nil, Rows.uptoBulk, Rows.uptoBulkAll] at hb
  have p0 := bulk_pos y0.1
  have p1 := bulk_pos y1.1
  match cs, hl with
  | [a0, a1], _ =>
   obtain ⟨v0, e0, h0⟩ := rdb_u64 (m := m) Tryz.underlying38 H enc w n [a0] y0 (by simpa [ce_uint64] using hg 0 _ rfl) (by omega)
   obtain ⟨v1, e1, h1⟩ := rdb_u64 (m := m) Tryz.underlying38 H enc w n [a1] y1 (by simpa [ce_uint64] using hg 1 _ rfl) (by omega)
   cases e0
   cases e1
   exact ⟨(v0, v1), rfl, h0, h1⟩
set_option maxRecDepth 20000 in
theorem rdb_Lit {m : Nat} (hm : m ≤ sm) : RdB m 42 rLt := fun H enc w fuel cs x h hb => by
 obtain ⟨xs, n, _, rfl, hl, hlen, hg⟩ := DataW.trod_struct Tryz.underlying42 h
 rw [ce_Lit] at hl
 match xs, hlen with
 | [y0, y1], _ =>
  simp only [List.map_cons, List.map_nil, Rows.uptoBulk, Rows.uptoBulkAll] at hb
  have p0 := bulk_pos y0.1
  have p1 := bulk_pos y1.1
  match cs, hl with
  | [a0, a1, a2], _ =>
   obtain ⟨v0, e0, h0⟩ := rdb_i64 (m := m) Tryz.underlying3 H enc w n [a0] y0 (by simpa [ce_int] using hg 0 _ rfl) (by omega)
   obtain ⟨v1, e1, h1, g1⟩ := (rdb_Num hm) H enc w n [a1, a2] y1 (by simpa [ce_Num] using hg 1 _ rfl) (by omega)
   cases e0
   cases e1
   exact ⟨(v0, v1), rfl, h0, h1, g1⟩
set_option maxRecDepth 20000 in
theorem rdb_Field {m : Nat} (hm : m ≤ sm) : RdB m 84 rFd := fun H enc w fuel cs x h hb => by
 obtain ⟨xs, n, _, rfl, hl, hlen, hg⟩ := DataW.trod_struct Tryz.underlying84 h
 rw [ce_Field] at hl
 match xs, hlen with
 | [y0, y1], _ =>
  simp only [List.map_cons, List.map_nil, Rows.uptoBulk, Rows.uptoBulkAll] at hb
  have p0 := bulk_pos y0.1
  have p1 := bulk_pos y1.1
  match cs, hl with
  | [a0, a1], _ =>
   obtain ⟨v0, e0, h0, k0⟩ := rdb_str (m := m) Tryz.underlying9 H enc w n [a0] y0 (by simpa [ce_string] using hg 0 _ rfl) (by omega)
   obtain ⟨v1, e1, h1⟩ := rdb_i64 (m := m) Tryz.underlying3 H enc w n [a1] y1 (by simpa [ce_int] using hg 1 _ rfl) (by omega)
   cases e0
   cases e1
   exact ⟨(v0, v1), rfl, h0, h1⟩
set_option maxRecDepth 20000 in
theorem rdb_Header {m : Nat} (hm : m ≤ sm) : RdB m 66 rHd := fun H enc w fuel cs x h hb => by
 obtain ⟨xs, n, _, rfl, hl, hlen, hg⟩ := DataW.trod_struct Tryz.underlying66 h
 rw [ce_Header] at hl
 match xs, hlen with
 | [y0, y1], _ =>
  simp only [List.map_cons, List.map_nil, Rows.uptoBulk, Rows.uptoBulkAll] at hb
  have p0 := bulk_pos y0.1
  have p1 := bulk_pos y1.1
  match cs, hl with
  | [a0, a1], _ =>
   obtain ⟨v0, e0, h0, k0⟩ := rdb_str (m := m) Tryz.underlying9 H enc w n [a0] y0 (by simpa [ce_string] using hg 0 _ rfl) (by omega)
   obtain ⟨v1, A1, c1, e1, h1⟩ := rdb_slice' (t := 23) (e := 84) (k := 2) Tryz.underlying23 ce_Field (by decide) (rdb_Field hm) H enc w n [a1] y1 (by simpa [ce_sField] using hg 1 _ rfl) (by omega)
   cases e0
   cases e1
   exact ⟨⟨v0, v1⟩, A1, c1, rfl, h0, h1⟩
set_option maxRecDepth 20000 in
theorem rdb_Set {m : Nat} (hm : m ≤ sm) : RdB m 97 rSe := fun H enc w fuel cs x h hb => by
 obtain ⟨xs, n, _, rfl, hl, hlen, hg⟩ := DataW.trod_struct Tryz.underlying97 h
 rw [ce_Set] at hl
 match xs, hlen with
 | [y0, y1, y2], _ =>
  simp only [List.map_cons, List.map_nil, Rows.uptoBulk, Rows.uptoBulkAll] at hb
  have p0 := bulk_pos y0.1
  have p1 := bulk_pos y1.1
  have p2 := bulk_pos y2.1
  match cs, hl with
  | [a0, a1, a2, a3, a4, a5, a6], _ =>
   obtain ⟨v0, e0, h0⟩ := rdb_u8 (m := m) Tryz.underlying5 H enc w n [a0] y0 (by simpa [ce_uint8] using hg 0 _ rfl) (by omega)
   obtain ⟨v1, e1, h1⟩ := (rdb_Lit hm) H enc w n [a1, a2, a3] y1 (by simpa [ce_Lit] using hg 1 _ rfl) (by omega)
   obtain ⟨v2, e2, h2⟩ := (rdb_Lit hm) H enc w n [a4, a5, a6] y2 (by simpa [ce_Lit] using hg 2 _ rfl) (by omega)
   cases e0
   cases e1
   cases e2
   exact ⟨⟨v0, v1, v2⟩, rfl, h0, h1, h2⟩
set_option maxRecDepth 20000 in
theorem rdb_Case {m : Nat} (hm : m ≤ sm) : RdB m 70 rCa := fun H enc w fuel cs x h hb => by
 obtain ⟨xs, n, _, rfl, hl, hlen, hg⟩ := DataW.trod_struct Tryz.underlying70 h
 rw [ce_Case] at hl
 match xs, hlen with
 | [y0, y1, y2], _ =>
  simp only [List.map_cons, List.map_nil, Rows.uptoBulk, Rows.uptoBulkAll] at hb
  have p0 := bulk_pos y0.1
  have p1 := bulk_pos y1.1
  have p2 := bulk_pos y2.1
  match cs, hl with
  | [a0, a1, a2], _ =>
   obtain ⟨v0, e0⟩ := rdb_bl (m := m) Tryz.underlying4 H enc w n [a0] y0 (by simpa [ce_bool] using hg 0 _ rfl) (by omega)
   obtain ⟨v1, A1, c1, e1, h1⟩ := rdb_slice' (t := 68) (e := 97) (k := 7) Tryz.underlying68 ce_Set (by decide) (rdb_Set hm) H enc w n [a1] y1 (by simpa [ce_sSet] using hg 1 _ rfl) (by omega)
   obtain ⟨v2, e2, h2, k2⟩ := rdb_str (m := m) Tryz.underlying9 H enc w n [a2] y2 (by simpa [ce_string] using hg 2 _ rfl) (by omega)
   cases e0
   cases e1
   cases e2
   exact ⟨⟨v0, v1, v2⟩, A1, c1, rfl, h2, h1⟩
def rCl : CR (ByteArray × List Lt) := fun w B cs x => ∃ A cap, cs = [.string x.1, .slice A x.2.length cap] ∧ x.1.size ≤ maxLen ∧ Sl 3 rLt w B A x.2
set_option maxRecDepth 20000 in
theorem rdb_Call {m : Nat} (hm : m ≤ sm) : RdB m 56 rCl := fun H enc w fuel cs x h hb => by
 obtain ⟨xs, n, _, rfl, hl, hlen, hg⟩ := DataW.trod_struct Tryz.underlying56 h
 rw [ce_Call] at hl
 match xs, hlen with
 | [y0, y1], _ =>
  simp only [List.map_cons, List.map_nil, Rows.uptoBulk, Rows.uptoBulkAll] at hb
  have p0 := bulk_pos y0.1
  have p1 := bulk_pos y1.1
  match cs, hl with
  | [a0, a1], _ =>
   obtain ⟨v0, e0, h0, k0⟩ := rdb_str (m := m) Tryz.underlying9 H enc w n [a0] y0 (by simpa [ce_string] using hg 0 _ rfl) (by omega)
   obtain ⟨v1, A1, c1, e1, h1⟩ := rdb_slice' (t := 54) (e := 42) (k := 3) Tryz.underlying54 ce_Lit (by decide) (rdb_Lit hm) H enc w n [a1] y1 (by simpa [ce_sLit] using hg 1 _ rfl) (by omega)
   cases e0
   cases e1
   exact ⟨(v0, v1), A1, c1, rfl, h0, h1⟩
def rExM (m : Nat) : CR Ex := fun w B cs e => RE w B cs e ∧ depthE e ≤ m
theorem depthL_max {n : Nat} : ∀ {l : List Ex}, (∀ x ∈ l, depthE x ≤ n) → depthL l ≤ n
 | [], _ => Nat.zero_le _
 | x :: l, h => by
  have h1 := h x List.mem_cons_self
  have h2 := depthL_max fun y hy => h y (List.mem_cons_of_mem _ hy)
  simp only [depthL]; omega
set_option maxRecDepth 20000 in
theorem rdb_exm : ∀ m : Nat, m ≤ sm → RdB m 45 (rExM m) := fun m => by
 induction m using Nat.strongRecOn with
 | _ m ih =>
  intro hm H enc w fuel cs x h hb
  obtain ⟨xs, n, _, rfl, hl, hlen, hg⟩ := DataW.trod_struct Tryz.underlying45 h
  rw [ce_Expr] at hl
  match xs, hlen with
  | [y0, y1, y2, y3, y4, y5, y6], _ =>
   simp only [List.map_cons, List.map_nil, Rows.uptoBulk, Rows.uptoBulkAll] at hb
   have p0 := bulk_pos y0.1
   have p1 := bulk_pos y1.1
   have p2 := bulk_pos y2.1
   have p3 := bulk_pos y3.1
   have p4 := bulk_pos y4.1
   have p5 := bulk_pos y5.1
   have p6 := bulk_pos y6.1
   match cs, hl with
   | [a0, a1, a2, a3, a4, a5, a6, a7, a8], _ =>
    obtain ⟨v0, e0, h0⟩ := rdb_u8 (m := m) Tryz.underlying5 H enc w n [a0] y0 (by simpa [ce_uint8] using hg 0 _ rfl) (by omega)
    obtain ⟨v1, e1, h1⟩ := (rdb_Lit hm) H enc w n [a1, a2, a3] y1 (by simpa [ce_Lit] using hg 1 _ rfl) (by omega)
    obtain ⟨v2, e2, h2, k2⟩ := rdb_str (m := m) Tryz.underlying9 H enc w n [a4] y2 (by simpa [ce_string] using hg 2 _ rfl) (by omega)
    obtain ⟨v3, e3, h3, k3⟩ := rdb_str (m := m) Tryz.underlying9 H enc w n [a5] y3 (by simpa [ce_string] using hg 3 _ rfl) (by omega)
    obtain ⟨v4, e4, h4⟩ := rdb_i64 (m := m) Tryz.underlying3 H enc w n [a6] y4 (by simpa [ce_int] using hg 4 _ rfl) (by omega)
    obtain ⟨v5, e5, h5⟩ := rdb_i64 (m := m) Tryz.underlying3 H enc w n [a7] y5 (by simpa [ce_int] using hg 5 _ rfl) (by omega)
    obtain ⟨v6, A6, c6, e6, h6⟩ := rdb_slice (m := m - 2) (t := 43) (e := 45) (k := 9) Tryz.underlying43 ce_Expr (by decide) (ih (m - 2) (by omega) (by omega)) H enc w n [a8] y6 (by simpa [ce_sExpr] using hg 6 _ rfl) (by omega)
    cases e0
    cases e1
    cases e2
    cases e3
    cases e4
    cases e5
    cases e6
    have hd : depthL v6 ≤ m - 2 := depthL_max fun x hx => by
     obtain ⟨i, hi⟩ := List.getElem?_of_mem hx
     obtain ⟨_, _, _, _, _, _, _, _, hd⟩ := h6.2 i x hi
     exact hd
    have hI := RE.intro (cap := c6) ⟨h0, h1, h2, h3, h4, h5⟩ (by omega : depthL v6 < sm) (h6.imp fun _ _ hr => ⟨hr.1, Nat.le_trans hr.2 (by omega)⟩)
    exact ⟨.mk v0 v1 v2 v3 v4 v5 v6, hI.1, by simp only [depthE]; omega⟩
theorem rdb_Expr {m : Nat} (hm : m ≤ sm) : RdB m 45 rEx := fun H enc w fuel cs x h hb => by
 obtain ⟨e, h1, h2⟩ := rdb_exm m hm H enc w fuel cs x h hb
 exact ⟨e, h1, Nat.le_trans h2 hm⟩
set_option maxRecDepth 20000 in
theorem rdb_State {m : Nat} (hm : m ≤ sm) : RdB m 61 rSa := fun H enc w fuel cs x h hb => by
 obtain ⟨xs, n, _, rfl, hl, hlen, hg⟩ := DataW.trod_struct Tryz.underlying61 h
 rw [ce_State] at hl
 match xs, hlen with
 | [y0, y1, y2, y3, y4], _ =>
  simp only [List.map_cons, List.map_nil, Rows.uptoBulk, Rows.uptoBulkAll] at hb
  have p0 := bulk_pos y0.1
  have p1 := bulk_pos y1.1
  have p2 := bulk_pos y2.1
  have p3 := bulk_pos y3.1
  have p4 := bulk_pos y4.1
  match cs, hl with
  | [a0, a1, a2, a3, a4], _ =>
   obtain ⟨v0, e0, h0, k0⟩ := rdb_str (m := m) Tryz.underlying9 H enc w n [a0] y0 (by simpa [ce_string] using hg 0 _ rfl) (by omega)
   obtain ⟨v1, A1, c1, e1, h1⟩ := rdb_slice' (t := 28) (e := 9) (k := 1) Tryz.underlying28 ce_string (by decide) (rdb_strs (m := m) Tryz.underlying9) H enc w n [a1] y1 (by simpa [ce_sstring] using hg 1 _ rfl) (by omega)
   obtain ⟨v2, e2, h2, k2⟩ := rdb_str (m := m) Tryz.underlying9 H enc w n [a2] y2 (by simpa [ce_string] using hg 2 _ rfl) (by omega)
   obtain ⟨v3, A3, c3, e3, h3⟩ := rdb_slice' (t := 43) (e := 45) (k := 9) Tryz.underlying43 ce_Expr (by decide) (rdb_Expr hm) H enc w n [a3] y3 (by simpa [ce_sExpr] using hg 3 _ rfl) (by omega)
   obtain ⟨v4, A4, c4, e4, h4⟩ := rdb_slice' (t := 59) (e := 70) (k := 3) Tryz.underlying59 ce_Case (by decide) (rdb_Case hm) H enc w n [a4] y4 (by simpa [ce_sCase] using hg 4 _ rfl) (by omega)
   cases e0
   cases e1
   cases e2
   cases e3
   cases e4
   exact ⟨⟨v0, v1, v2, v3, v4⟩, A1, c1, A3, c3, A4, c4, rfl, h0, h2, h1, h3, h4⟩
set_option maxRecDepth 20000 in
theorem rdb_Key {m : Nat} (hm : m ≤ sm) : RdB m 52 rKy := fun H enc w fuel cs x h hb => by
 obtain ⟨xs, n, _, rfl, hl, hlen, hg⟩ := DataW.trod_struct Tryz.underlying52 h
 rw [ce_Key] at hl
 match xs, hlen with
 | [y0, y1], _ =>
  simp only [List.map_cons, List.map_nil, Rows.uptoBulk, Rows.uptoBulkAll] at hb
  have p0 := bulk_pos y0.1
  have p1 := bulk_pos y1.1
  match cs, hl with
  | [a0, a1, a2, a3, a4, a5, a6, a7, a8, a9], _ =>
   obtain ⟨v0, h0⟩ := (rdb_Expr hm) H enc w n [a0, a1, a2, a3, a4, a5, a6, a7, a8] y0 (by simpa [ce_Expr] using hg 0 _ rfl) (by omega)
   obtain ⟨v1, e1, h1⟩ := rdb_u8 (m := m) Tryz.underlying5 H enc w n [a9] y1 (by simpa [ce_uint8] using hg 1 _ rfl) (by omega)
   cases e1
   exact ⟨⟨v0, v1⟩, _, rfl, h1, h0⟩
set_option maxRecDepth 20000 in
theorem rdb_Table {m : Nat} (hm : m ≤ sm) : RdB m 58 rTa := fun H enc w fuel cs x h hb => by
 obtain ⟨xs, n, _, rfl, hl, hlen, hg⟩ := DataW.trod_struct Tryz.underlying58 h
 rw [ce_Table] at hl
 match xs, hlen with
 | [y0, y1, y2, y3], _ =>
  simp only [List.map_cons, List.map_nil, Rows.uptoBulk, Rows.uptoBulkAll] at hb
  have p0 := bulk_pos y0.1
  have p1 := bulk_pos y1.1
  have p2 := bulk_pos y2.1
  have p3 := bulk_pos y3.1
  match cs, hl with
  | [a0, a1, a2, a3, a4], _ =>
   obtain ⟨v0, e0, h0, k0⟩ := rdb_str (m := m) Tryz.underlying9 H enc w n [a0] y0 (by simpa [ce_string] using hg 0 _ rfl) (by omega)
   obtain ⟨v1, A1, c1, e1, h1⟩ := rdb_slice' (t := 53) (e := 52) (k := 10) Tryz.underlying53 ce_Key (by decide) (rdb_Key hm) H enc w n [a1] y1 (by simpa [ce_sKey] using hg 1 _ rfl) (by omega)
   obtain ⟨v2, A2, c2, e2, h2⟩ := rdb_slice' (t := 28) (e := 9) (k := 1) Tryz.underlying28 ce_string (by decide) (rdb_strs (m := m) Tryz.underlying9) H enc w n [a2] y2 (by simpa [ce_sstring] using hg 2 _ rfl) (by omega)
   obtain ⟨v3, A3, c3, e3, h3, k3⟩ := (rdb_Call hm) H enc w n [a3, a4] y3 (by simpa [ce_Call] using hg 3 _ rfl) (by omega)
   cases e0
   cases e1
   cases e2
   cases e3
   exact ⟨⟨v0, v1, v2, v3.1, v3.2⟩, A1, c1, A2, c2, A3, c3, rfl, h0, h3, h1, h2, k3⟩
/-- A program that is read, as its seven slices lie. -/
def rPg : CR Pg := fun w B cs p => ∃ A1 A2 A3 A4 A5 A6 A7 c1 c2 c3 c4 c5 c6 c7, cs = pgC p A1 A2 A3 A4 A5 A6 A7 c1 c2 c3 c4 c5 c6 c7 ∧ PgS w B A1 A2 A3 A4 A5 A6 A7 p
end Go.Proofs.YtbbdhknagofghaaGreat
/-! Openers: how many statements a reading has at most. -/
namespace Go.Proofs.YtbbdhknagofghaaGreat
open Go.ChangeShapes Go.WideShapes Go.ChangeAt Go.RowKit Go.Deep
theorem sum_bulk {α H : Type} {mu : α → Nat} : ∀ (len : Nat) (D : Nat → DataW H) (xs : List α), xs.length = len → (∀ i y, xs[i]? = some y → mu y ≤ Rows.uptoBulk (D i)) → (xs.map mu).sum ≤ Rows.uptoBulkAll ((List.range len).map D)
 | 0, D, xs, h, _ => by simp [List.eq_nil_of_length_eq_zero h]
 | len + 1, D, [], h, _ => by simp at h
 | len + 1, D, x :: xs, h, hm => by
  have ih := sum_bulk len (fun i => D (i + 1)) xs (by simpa using h) fun i y hy => hm (i + 1) y (by simpa using hy)
  have h0 := hm 0 x rfl
  rw [List.range_succ_eq_map, List.map_cons, List.map_cons, List.map_map]
  simp only [Rows.uptoBulkAll, List.sum_cons]
  have e : List.map (D ∘ Nat.succ) (List.range len) = List.map (fun i => D (i + 1)) (List.range len) := rfl
  rw [e]
  omega
def rC {α : Type} (R : CR α) (mu : α → Nat) (m : Nat) : CR α := fun w B cs a => R w B cs a ∧ mu a ≤ m
theorem rdb_sliceC {α : Type} {R : CR α} {t e : TypeId} {k m : Nat} (mu : α → Nat) (ht : Tryz.prog.underlying t = some (.slice e)) (hk : Tryz.prog.cellsOf e = k) (hk0 : 0 < k) (he : ∀ m', m' ≤ m → RdB m' e (rC R mu m')) :
  RdB (m + 1) t (rC (rSl k R) (fun xs => (xs.map mu).sum) m) := fun H enc w fuel cs x h hb => by
 rcases open_slice ht h with ⟨rfl, _⟩ | ⟨a, len, cap, mm, n, D, Pl, rfl, _, hl, hm, hmm, hxx, hx⟩
 ·exact ⟨[], ⟨none, 0, rfl, Sl.nil_⟩, by simp⟩
 ·simp only [if_true] at hmm
  subst hmm
  have hbA : Rows.uptoBulkAll ((List.range len).map D) ≤ m := by
   rw [hxx] at hb
   simp only [Rows.uptoBulk] at hb
   omega
  have hbD : ∀ i, i < len → Rows.uptoBulk (D i) ≤ m := fun i hi => by
   have := bulk_mem (d := D i) (l := (List.range len).map D) (List.mem_map.2 ⟨i, List.mem_range.2 hi, rfl⟩)
   omega
  obtain ⟨xs, hlen, hxs⟩ := exists_list (p := fun i y => (∃ ecs : List Value, ecs.length = k ∧ (∀ j, j < k → w.cell? ((a.add (i * k)).add j) = ecs[j]?) ∧ R w w.heap.size ecs y) ∧ mu y ≤ Rows.uptoBulk (D i)) len (fun i hi => by
   obtain ⟨cs', hc, htr⟩ := hx i (by omega)
   rw [hk] at hc
   obtain ⟨_, h1, h2⟩ := World.cells?_some hc
   obtain ⟨y, hy, hmu⟩ := he (Rows.uptoBulk (D i)) (hbD i hi) H enc w n cs' _ htr (Nat.le_refl _)
   exact ⟨y, ⟨cs', h1, h2, hy⟩, hmu⟩)
  refine ⟨xs, ⟨some a, mm, by rw [hlen], by omega, fun i y hy => ?_⟩, Nat.le_trans (sum_bulk len D xs hlen fun i y hy => (hxs i y hy).2) hbA⟩
  have hi : i < len := by rw [← hlen]; exact (List.getElem?_eq_some_iff.1 hy).1
  obtain ⟨⟨ecs0, g1, g2, _⟩, _⟩ := hxs 0 (xs[0]'(by omega)) (List.getElem?_eq_getElem (by omega))
  have hz : w.cell? a = some (ecs0[0]'(by omega)) := by
   have := g2 0 hk0
   rw [List.getElem?_eq_getElem (by omega)] at this
   simpa [Addr.add] using this
  obtain ⟨b, o, rfl⟩ := addr_spot hz
  have hb := World.block_lt_of_cell? w _ hz
  obtain ⟨⟨ecs, h1, h2, h3⟩, _⟩ := hxs i y hy
  have hadd : ∀ j, ((⟨b, o, none⟩ : Addr).add (i * k)).add j = ⟨b, o + i * k + j, none⟩ := fun j => by unfold Addr.add; split <;> split <;> simp_all
  refine ⟨b, o, ecs, rfl, hb, h1, fun j u hu => ?_, h3⟩
  have hj : j < k := by have := (List.getElem?_eq_some_iff.1 hu).1; omega
  rw [← hadd j, h2 j hj, hu]
theorem countL_sum : ∀ l : List St, countL l = (l.map countS).sum
 | [] => rfl
 | s :: l => by simp only [countL, List.map_cons, List.sum_cons, countL_sum l]
theorem len_sum {l : List St} : l.length ≤ (l.map countS).sum := by
 induction l with
 | nil => simp
 | cons x l ih =>
  have : 1 ≤ countS x := by obtain ⟨kind, head, name, e, thn, els⟩ := x; simp only [countS]; omega
  simp only [List.map_cons, List.sum_cons, List.length_cons]; omega
set_option maxRecDepth 20000 in
theorem rdb_stmC : ∀ m : Nat, m ≤ sm → RdB m 47 (rC rSt countS m) := fun m => by
 induction m using Nat.strongRecOn with
 | _ m ih =>
  intro hm H enc w fuel cs x h hb
  obtain ⟨xs, n, _, rfl, hl, hlen, hg⟩ := DataW.trod_struct Tryz.underlying47 h
  rw [ce_Stmt] at hl
  match xs, hlen with
  | [y0, y1, y2, y3, y4, y5], _ =>
   simp only [List.map_cons, List.map_nil, Rows.uptoBulk, Rows.uptoBulkAll] at hb
   have p0 := bulk_pos y0.1
   have p1 := bulk_pos y1.1
   have p2 := bulk_pos y2.1
   have p3 := bulk_pos y3.1
   have p4 := bulk_pos y4.1
   have p5 := bulk_pos y5.1
   match cs, hl with
   | [a0, a1, a2, a3, a4, a5, a6, a7, a8, a9, a10, a11, a12, a13], _ =>
    obtain ⟨v0, e0, h0⟩ := rdb_u8 (m := m) Tryz.underlying5 H enc w n [a0] y0 (by simpa [ce_uint8] using hg 0 _ rfl) (by omega)
    obtain ⟨v1, e1, h1, k1⟩ := rdb_str (m := m) Tryz.underlying9 H enc w n [a1] y1 (by simpa [ce_string] using hg 1 _ rfl) (by omega)
    obtain ⟨v2, e2, h2, k2⟩ := rdb_str (m := m) Tryz.underlying9 H enc w n [a2] y2 (by simpa [ce_string] using hg 2 _ rfl) (by omega)
    obtain ⟨v3, h3⟩ := rdb_Expr hm H enc w n [a3, a4, a5, a6, a7, a8, a9, a10, a11] y3 (by simpa [ce_Expr] using hg 3 _ rfl) (by omega)
    obtain ⟨v4, ⟨A4, c4, e4, h4⟩, k4⟩ := rdb_sliceC (m := Rows.uptoBulk y4.1 - 1) (t := 27) (e := 47) (k := 14) countS Tryz.underlying27 ce_Stmt (by decide) (fun m' hm' => ih m' (by omega) (by omega)) H enc w n [a12] y4 (by simpa [ce_sStmt] using hg 4 _ rfl) (by omega)
    obtain ⟨v5, ⟨A5, c5, e5, h5⟩, k5⟩ := rdb_sliceC (m := Rows.uptoBulk y5.1 - 1) (t := 27) (e := 47) (k := 14) countS Tryz.underlying27 ce_Stmt (by decide) (fun m' hm' => ih m' (by omega) (by omega)) H enc w n [a13] y5 (by simpa [ce_sStmt] using hg 5 _ rfl) (by omega)
    have n4 := len_sum (l := v4)
    have n5 := len_sum (l := v5)
    simp only at k4 k5
    cases e0
    cases e1
    cases e2
    cases e4
    cases e5
    exact ⟨.mk v0 v1 v2 v3 v4 v5, RS.intro (cap := c4) (cap' := c5) ⟨h0, by omega, by omega⟩ ⟨by omega, by omega⟩ h3 h4 h5, by
     simp only [countS, countL_sum]; omega⟩
theorem rdb_stmsC {m : Nat} (hm : m + 1 ≤ sm) : RdB (m + 1) 27 (rC (rSl 14 rSt) countL m) := fun H enc w fuel cs x h hb => by
 obtain ⟨v, h1, h2⟩ := rdb_sliceC (m := m) (t := 27) (e := 47) (k := 14) countS Tryz.underlying27 ce_Stmt (by decide) (fun m' hm' => rdb_stmC m' (by omega)) H enc w fuel cs x h hb
 exact ⟨v, h1, by rw [countL_sum]; exact h2⟩
set_option maxRecDepth 20000 in
theorem rdb_ActionC {m : Nat} (hm : m ≤ sm) : RdB m 72 (rC rAc (fun a : Ac => countL a.body) m) := fun H enc w fuel cs x h hb => by
 obtain ⟨xs, n, _, rfl, hl, hlen, hg⟩ := DataW.trod_struct Tryz.underlying72 h
 rw [ce_Action] at hl
 match xs, hlen with
 | [y0, y1, y2], _ =>
  simp only [List.map_cons, List.map_nil, Rows.uptoBulk, Rows.uptoBulkAll] at hb
  have p0 := bulk_pos y0.1
  have p1 := bulk_pos y1.1
  have p2 := bulk_pos y2.1
  match cs, hl with
  | [a0, a1, a2], _ =>
   obtain ⟨v0, e0, h0, k0⟩ := rdb_str (m := m) Tryz.underlying9 H enc w n [a0] y0 (by simpa [ce_string] using hg 0 _ rfl) (by omega)
   obtain ⟨v1, A1, c1, e1, h1⟩ := rdb_slice' (t := 23) (e := 84) (k := 2) Tryz.underlying23 ce_Field (by decide) (rdb_Field hm) H enc w n [a1] y1 (by simpa [ce_sField] using hg 1 _ rfl) (by omega)
   obtain ⟨v2, ⟨A2, c2, e2, h2⟩, k2⟩ := rdb_stmsC (m := m - 1) (by omega) H enc w n [a2] y2 (by simpa [ce_sStmt] using hg 2 _ rfl) (by omega)
   cases e0
   cases e1
   cases e2
   exact ⟨⟨v0, v1, v2⟩, ⟨A1, c1, A2, c2, rfl, h0, h1, h2⟩, Nat.le_trans k2 (by omega)⟩
/-- How many statements a program has at most. -/
def cntOk (p : Pg) : Prop := countL p.control ≤ sm ∧ (p.actions.map fun a : Ac => countL a.body).sum ≤ sm
set_option maxRecDepth 20000 in
theorem rdb_ProgramC {m : Nat} (hm : m ≤ sm) : RdB m 30 (fun w B cs p => rPg w B cs p ∧ cntOk p) := fun H enc w fuel cs x h hb => by
 obtain ⟨xs, n, _, rfl, hl, hlen, hg⟩ := DataW.trod_struct Tryz.underlying30 h
 rw [ce_Program] at hl
 match xs, hlen with
 | [y0, y1, y2, y3, y4, y5, y6], _ =>
  simp only [List.map_cons, List.map_nil, Rows.uptoBulk, Rows.uptoBulkAll] at hb
  have p0 := bulk_pos y0.1
  have p1 := bulk_pos y1.1
  have p2 := bulk_pos y2.1
  have p3 := bulk_pos y3.1
  have p4 := bulk_pos y4.1
  have p5 := bulk_pos y5.1
  have p6 := bulk_pos y6.1
  match cs, hl with
  | [a0, a1, a2, a3, a4, a5, a6], _ =>
   obtain ⟨v0, A0, c0, e0, h0⟩ := rdb_slice' (t := 22) (e := 66) (k := 2) Tryz.underlying22 ce_Header (by decide) (rdb_Header hm) H enc w n [a0] y0 (by simpa [ce_sHeader] using hg 0 _ rfl) (by omega)
   obtain ⟨v1, A1, c1, e1, h1⟩ := rdb_slice' (t := 23) (e := 84) (k := 2) Tryz.underlying23 ce_Field (by decide) (rdb_Field hm) H enc w n [a1] y1 (by simpa [ce_sField] using hg 1 _ rfl) (by omega)
   obtain ⟨v2, A2, c2, e2, h2⟩ := rdb_slice' (t := 24) (e := 61) (k := 5) Tryz.underlying24 ce_State (by decide) (rdb_State hm) H enc w n [a2] y2 (by simpa [ce_sState] using hg 2 _ rfl) (by omega)
   obtain ⟨v3, ⟨A3, c3, e3, h3⟩, k3⟩ := rdb_sliceC (m := m - 1) (t := 25) (e := 72) (k := 3) (fun a : Ac => countL a.body) Tryz.underlying25 ce_Action (by decide) (fun m' hm' => rdb_ActionC (m := m') (by omega)) H enc w n [a3] y3 (by simpa [ce_sAction] using hg 3 _ rfl) (by omega)
   obtain ⟨v4, A4, c4, e4, h4⟩ := rdb_slice' (t := 26) (e := 58) (k := 5) Tryz.underlying26 ce_Table (by decide) (rdb_Table hm) H enc w n [a4] y4 (by simpa [ce_sTable] using hg 4 _ rfl) (by omega)
   obtain ⟨v5, ⟨A5, c5, e5, h5⟩, k5⟩ := rdb_stmsC (m := m - 1) (by omega) H enc w n [a5] y5 (by simpa [ce_sStmt] using hg 5 _ rfl) (by omega)
   obtain ⟨v6, A6, c6, e6, h6⟩ := rdb_slice' (t := 28) (e := 9) (k := 1) Tryz.underlying28 ce_string (by decide) (rdb_strs (m := m) Tryz.underlying9) H enc w n [a6] y6 (by simpa [ce_sstring] using hg 6 _ rfl) (by omega)
   cases e0
   cases e1
   cases e2
   cases e3
   cases e4
   cases e5
   cases e6
   exact ⟨⟨v0, v1, v2, v3, v4, v5, v6⟩, ⟨A0, A1, A2, A3, A4, A5, A6, c0, c1, c2, c3, c4, c5, c6, rfl, ⟨h0, h1, h2, h3, h4, h5, h6⟩⟩, Nat.le_trans k5 (by omega), Nat.le_trans k3 (by omega)⟩
theorem sum_le_of {α : Type} {f : α → Nat} {c : Nat} : ∀ {l : List α}, (∀ x ∈ l, f x ≤ c) → (l.map f).sum ≤ l.length * c
 | [], _ => by simp
 | x :: l, h => by
  have h1 := h x List.mem_cons_self
  have h2 := sum_le_of (l := l) fun y hy => h y (List.mem_cons_of_mem _ hy)
  simp only [List.map_cons, List.sum_cons, List.length_cons, Nat.add_mul]; omega
theorem sum_split {α : Type} {f g : α → Nat} : ∀ (l : List α), (l.map fun a => f a + g a).sum = (l.map f).sum + (l.map g).sum
 | [] => rfl
 | x :: l => by simp only [List.map_cons, List.sum_cons, sum_split l]; omega
theorem count_small {p : Pg} (hm : mayP p = true) (hc : cntOk p) : (itemsP p).length ≤ bigI := by
 rw [length_itemsP]
 unfold mayP manyB at hm
 simp only [Bool.and_eq_true, decide_eq_true_eq] at hm
 obtain ⟨⟨⟨⟨⟨⟨⟨⟨h1, h2, h3a, h3, h4, h5, h6⟩, g1⟩, g2⟩, g3⟩, g4⟩, g5⟩, g6⟩, g7⟩ := hm
 obtain ⟨k1, k2⟩ := hc
 have a1 : (p.headers.map fun h => h.fields.length + 1).sum ≤ p.headers.length * 17 := sum_le_of fun x hx => by
  have := List.all_eq_true.1 g1 x hx
  simp only [hdB, Bool.and_eq_true, decide_eq_true_eq] at this
  omega
 have a2 : (p.states.map fun s => 1 + s.takes.length + 1 + s.cases_.length).sum ≤ p.states.length * 26 := sum_le_of fun x hx => by
  have := List.all_eq_true.1 g3 x hx
  unfold saB at this
  simp only [Bool.and_eq_true, decide_eq_true_eq] at this
  obtain ⟨⟨⟨_, t1⟩, _⟩, t2⟩ := this
  split at t2
  ·simp only [Bool.and_eq_true, decide_eq_true_eq] at t2; omega
  ·simp only [Bool.and_eq_true, List.isEmpty_iff] at t2; rw [t2.2]; simp only [List.length_nil]; omega
 have a3 : (p.actions.map fun a => 1 + a.params.length + countL a.body).sum ≤ p.actions.length * 9 + sm := by
  rw [sum_split (f := fun a : Ac => 1 + a.params.length) (g := fun a : Ac => countL a.body)]
  have : (p.actions.map fun a => 1 + a.params.length).sum ≤ p.actions.length * 9 := sum_le_of fun x hx => by
   have := List.all_eq_true.1 g4 x hx
   simp only [acB, Bool.and_eq_true, decide_eq_true_eq] at this
   omega
  omega
 have a4 : (p.tables.map fun t => 1 + t.keys.length + t.actions.length + 1).sum ≤ p.tables.length * 22 := sum_le_of fun x hx => by
  have := List.all_eq_true.1 g5 x hx
  simp only [taB, Bool.and_eq_true, decide_eq_true_eq] at this
  omega
 unfold countP
 show _ ≤ 100000000
 unfold sm at *
 omega
end Go.Proofs.YtbbdhknagofghaaGreat

import Derived.Test.YtbbdhknagofghaaGreatWhl09
import Derived.Test.YtbbdhknagofghaaGreatWhl07
import Derived.Test.YtbbdhknagofghaaGreatWhl06
import Derived.Deep.DeepCutAuto
import Derived.Deep.CutBlock
set_option linter.all false
/-! Printed by gen_g.py: resolve.Header, Action, Table. -/
namespace Go.Proofs.YtbbdhknagofghaaGreat
open Go.RowKit
set_option maxHeartbeats 1000000 in
theorem header_any (w : World) (A1 A2 A3 A4 A5 A6 A7 : Option Addr) (p : Pg) (c1 c2 c3 c4 c5 c6 c7 : Nat) (s : ByteArray) {B : Nat} (hB : B ≤ w.heap.size) (h : PgS w B A1 A2 A3 A4 A5 A6 A7 p) :
  Calls Tryz.prog 83 #[.agg #[.slice A1 p.headers.length c1, .slice A2 p.metas.length c2, .slice A3 p.states.length c3, .slice A4 p.actions.length c4, .slice A5 p.tables.length c5, .slice A6 p.control.length c6, .slice A7 p.emit.length c7], .string s] w fun e w' => e = .returned (.int .i64 (headerI p s)) ∧ Below w.heap.size w w' := by
 obtain ⟨wb, hwb, hsz, hw, hcb, -⟩ := box1 w #[.slice A1 p.headers.length c1, .slice A2 p.metas.length c2, .slice A3 p.states.length c3, .slice A4 p.actions.length c4, .slice A5 p.tables.length c5, .slice A6 p.control.length c6, .slice A7 p.emit.length c7] 30
 have y1 : wb.cell? ⟨w.heap.size, 0, none⟩ = some (.slice A1 p.headers.length c1) := hcb 0
 have hcall := find_Header A1 c1 p.headers s wb (by omega) (h.headers.below sta_hd (hw.mono hB))
 replace hw := hide hw
 clear hcb h
 go_enter Tryz.func83, Tryz.ntmps83
 go_wp2_with (go_at_call 151; refine hcall.mono ?_; rintro e w' ⟨rfl, hb⟩)
 go_ret
 exact ⟨rfl, hw.out.trans (hb.mono (by omega))⟩
set_option maxHeartbeats 1000000 in
theorem action_any (w : World) (A1 A2 A3 A4 A5 A6 A7 : Option Addr) (p : Pg) (c1 c2 c3 c4 c5 c6 c7 : Nat) (s : ByteArray) {B : Nat} (hB : B ≤ w.heap.size) (h : PgS w B A1 A2 A3 A4 A5 A6 A7 p) :
  Calls Tryz.prog 38 #[.agg #[.slice A1 p.headers.length c1, .slice A2 p.metas.length c2, .slice A3 p.states.length c3, .slice A4 p.actions.length c4, .slice A5 p.tables.length c5, .slice A6 p.control.length c6, .slice A7 p.emit.length c7], .string s] w fun e w' => e = .returned (.int .i64 (actionI p s)) ∧ Below w.heap.size w w' := by
 obtain ⟨wb, hwb, hsz, hw, hcb, -⟩ := box1 w #[.slice A1 p.headers.length c1, .slice A2 p.metas.length c2, .slice A3 p.states.length c3, .slice A4 p.actions.length c4, .slice A5 p.tables.length c5, .slice A6 p.control.length c6, .slice A7 p.emit.length c7] 30
 have y1 : wb.cell? ⟨w.heap.size, 3, none⟩ = some (.slice A4 p.actions.length c4) := hcb 3
 have hcall := find_Action A4 c4 p.actions s wb (by omega) (h.actions.below sta_ac (hw.mono hB))
 replace hw := hide hw
 clear hcb h
 go_enter Tryz.func38, Tryz.ntmps38
 go_wp2_with (go_at_call 98; refine hcall.mono ?_; rintro e w' ⟨rfl, hb⟩)
 go_ret
 exact ⟨rfl, hw.out.trans (hb.mono (by omega))⟩
set_option maxHeartbeats 1000000 in
theorem table_any (w : World) (A1 A2 A3 A4 A5 A6 A7 : Option Addr) (p : Pg) (c1 c2 c3 c4 c5 c6 c7 : Nat) (s : ByteArray) {B : Nat} (hB : B ≤ w.heap.size) (h : PgS w B A1 A2 A3 A4 A5 A6 A7 p) :
  Calls Tryz.prog 90 #[.agg #[.slice A1 p.headers.length c1, .slice A2 p.metas.length c2, .slice A3 p.states.length c3, .slice A4 p.actions.length c4, .slice A5 p.tables.length c5, .slice A6 p.control.length c6, .slice A7 p.emit.length c7], .string s] w fun e w' => e = .returned (.int .i64 (tableI p s)) ∧ Below w.heap.size w w' := by
 obtain ⟨wb, hwb, hsz, hw, hcb, -⟩ := box1 w #[.slice A1 p.headers.length c1, .slice A2 p.metas.length c2, .slice A3 p.states.length c3, .slice A4 p.actions.length c4, .slice A5 p.tables.length c5, .slice A6 p.control.length c6, .slice A7 p.emit.length c7] 30
 have y1 : wb.cell? ⟨w.heap.size, 4, none⟩ = some (.slice A5 p.tables.length c5) := hcb 4
 have hcall := find_Table A5 c5 p.tables s wb (by omega) (h.tables.below sta_ta (hw.mono hB))
 replace hw := hide hw
 clear hcb h
 go_enter Tryz.func90, Tryz.ntmps90
 go_wp2_with (go_at_call 158; refine hcall.mono ?_; rintro e w' ⟨rfl, hb⟩)
 go_ret
 exact ⟨rfl, hw.out.trans (hb.mono (by omega))⟩
end Go.Proofs.YtbbdhknagofghaaGreat
/-! Layer 7: State, Bits. -/
namespace Go.Proofs.YtbbdhknagofghaaGreat
open Go.RowKit
theorem ret_ib {k : IntKind} {a b : Int} {x y : Bool} (h : a = b) (g : x = y) : Ending.returned (.tuple #[.int k a, .bool x]) = .returned (.tuple #[.int k b, .bool y]) := by rw [h, g]
set_option maxHeartbeats 1000000 in
theorem state_any (w : World) (A1 A2 A3 A4 A5 A6 A7 : Option Addr) (p : Pg) (c1 c2 c3 c4 c5 c6 c7 : Nat) (s : ByteArray) {B : Nat} (hB : B ≤ w.heap.size) (h : PgS w B A1 A2 A3 A4 A5 A6 A7 p) :
  Calls Tryz.prog 86 #[.agg #[.slice A1 p.headers.length c1, .slice A2 p.metas.length c2, .slice A3 p.states.length c3, .slice A4 p.actions.length c4, .slice A5 p.tables.length c5, .slice A6 p.control.length c6, .slice A7 p.emit.length c7], .string s] w fun e w' => e = .returned (.tuple #[.int .i64 (stateI p s), .bool (stateB p s)]) ∧ Below w.heap.size w w' := by
 obtain ⟨wb, hwb, hsz, hw, hcb, -⟩ := box1 w #[.slice A1 p.headers.length c1, .slice A2 p.metas.length c2, .slice A3 p.states.length c3, .slice A4 p.actions.length c4, .slice A5 p.tables.length c5, .slice A6 p.control.length c6, .slice A7 p.emit.length c7] 30
 have y1 : wb.cell? ⟨w.heap.size, 2, none⟩ = some (.slice A3 p.states.length c3) := hcb 2
 have hcall := find_State A3 c3 p.states s wb (by omega) (h.states.below sta_sa (hw.mono hB))
 replace hw := hide hw
 clear hcb h
 go_enter Tryz.func86, Tryz.ntmps86
 by_cases h1 : s = accS
 ·have e1 := acc_iff.1 h1
  have hv := hide (show stateI p s = -1 ∧ stateB p s = true from by simp [stateI, stateB, h1])
  clear h1
  go_wp2
  go_ret2
  exact ⟨ret_ib hv.out.1.symm hv.out.2.symm, hw.out⟩
 ·have e1 : (s.toList == [97, 99, 99, 101, 112, 116]) = false := by rw [beq_eq_false_iff_ne]; exact fun h => h1 (acc_iff.2 h)
  by_cases h2 : s = rejS
  ·have e2 := rej_iff.1 h2
   have hv := hide (show stateI p s = -2 ∧ stateB p s = true from by simp [stateI, stateB, h2]; decide)
   clear h1 h2
   go_wp2
   go_ret2
   exact ⟨ret_ib hv.out.1.symm hv.out.2.symm, hw.out⟩
  ·have e2 : (s.toList == [114, 101, 106, 101, 99, 116]) = false := by rw [beq_eq_false_iff_ne]; exact fun h => h2 (rej_iff.2 h)
   have hv := hide (show stateI p s = max (findI (p.states.map Sa.name) s) 0 ∧ stateB p s = decide (0 ≤ findI (p.states.map Sa.name) s) from ⟨by simp [stateI, stateR, h1, h2], by unfold stateB stateR; rw [if_neg h1, if_neg h2]⟩)
   clear h1 h2
   generalize findI (p.states.map Sa.name) s = z at hv hcall
   go_wp2_with (go_at_call 155; refine hcall.mono ?_; rintro e w' ⟨rfl, hb⟩)
   go_ret2
   exact ⟨ret_ib hv.out.1.symm hv.out.2.symm, hw.out.trans (hb.mono (by omega))⟩
end Go.Proofs.YtbbdhknagofghaaGreat
/-! Index and Contains over names, Bits. -/
namespace Go.Proofs.YtbbdhknagofghaaGreat
open Go.RowKit
theorem findI_geS {α : Type} [DecidableEq α] (l : List α) (a : α) : decide (0 ≤ findI l a) = decide (a ∈ l) := by
 unfold findI
 by_cases h : a ∈ l <;> simp [h]
set_option maxHeartbeats 400000 in
theorem sindexS_any (A : Option Addr) (cap : Nat) (xs : List ByteArray) (n : ByteArray) (w : World) (h : Sl 1 rStr w w.heap.size A xs) :
  Calls Tryz.prog 92 #[.slice A xs.length cap, .string n] w fun e w' => e = .returned (.int .i64 (findI xs n)) ∧ w = w' := by
 have hl := h.len
 go_enter Tryz.func92, Tryz.ntmps92
 go_wp2
 go_loop [8] (fun i => ∃ k : Nat, k ≤ xs.length ∧ i = .int .i64 k ∧ n ∉ xs.take k) (fun i => xs.length - (intOf i).toNat)
 case atStart => exact ⟨0, Nat.zero_le _, rfl, by simp⟩
 case round =>
  obtain ⟨k, hk, rfl, hc⟩ := hrel
  by_cases hlt : k < xs.length
  ·obtain ⟨b, o, rfl, hb, hcell, -⟩ := h.str hlt
   clear h
   by_cases he : xs[k] = n
   ·have ht := str_eq he.symm
    have hv := hide (findI_at hlt hc he)
    clear he
    go_wp2
    go_ret
    exact ⟨ret_int hv.out.symm, rfl⟩
   ·have ht := str_ne (fun e => he (Eq.symm e))
    have hv := hide (notMem_take_snoc hlt hc he)
    clear he
    go_wp2
    go_round
    case rel => exact ⟨k + 1, by omega, by go_num, hv.out⟩
    case measure => simp [intOf]; omega
  ·have hv := hide (findI_no (notMem_of_take hk hlt hc))
   go_wp2
   go_ret
   exact ⟨ret_int hv.out.symm, rfl⟩
set_option maxHeartbeats 400000 in
theorem scontainsS_any (A : Option Addr) (cap : Nat) (xs : List ByteArray) (n : ByteArray) (w : World) (h : Sl 1 rStr w w.heap.size A xs) :
  Calls Tryz.prog 160 #[.slice A xs.length cap, .string n] w fun e w' => e = .returned (.bool (decide (n ∈ xs))) ∧ w = w' := by
 have hv := hide (findI_geS xs n)
 go_enter Tryz.func160, Tryz.ntmps160
 go_wp2_with (go_at_call 92; refine (sindexS_any _ _ _ _ _ h).mono ?_; rintro e w' ⟨rfl, rfl⟩)
 go_ret
 exact ⟨ret_b (hv.out.trans (by congr)), rfl⟩
def bitsN (l : List Fd) : Int := (l.map Prod.snd).sum
theorem bitsN_take {l : List Fd} {k : Nat} (hk : k < l.length) : bitsN (l.take (k + 1)) = bitsN (l.take k) + l[k].2 := by
 unfold bitsN
 rw [List.take_succ_eq_append_getElem hk, List.map_append, List.sum_append]
 simp
theorem bitsN_le : ∀ {l : List Fd}, (∀ f ∈ l, 1 ≤ f.2 ∧ f.2 ≤ 128) → 0 ≤ bitsN l ∧ bitsN l ≤ 128 * l.length
 | [], _ => by simp [bitsN]
 | f :: l, h => by
  have h1 := h f List.mem_cons_self
  have h2 := bitsN_le (l := l) fun x hx => h x (List.mem_cons_of_mem _ hx)
  simp only [bitsN, List.map_cons, List.sum_cons, List.length_cons] at h2 ⊢
  omega
set_option maxHeartbeats 1000000 in
theorem bits_any (h : Hd) (A : Option Addr) (cap : Nat) (w : World) {B : Nat} (hB : B ≤ w.heap.size) (hF : Sl 2 rFd w B A h.fields) (hm : hdB h = true) :
  Calls Tryz.prog 81 #[.agg #[.string h.name, .slice A h.fields.length cap]] w fun e w' => e = .returned (.int .i64 (bitsI h)) ∧ Below w.heap.size w w' := by
 obtain ⟨wb, hwb, hsz, hw, hcb, -⟩ := box1 w #[.string h.name, .slice A h.fields.length cap] 66
 have y0 : wb.cell? ⟨w.heap.size, 0, none⟩ = some (.string h.name) := hcb 0
 have y1 : wb.cell? ⟨w.heap.size, 1, none⟩ = some (.slice A h.fields.length cap) := hcb 1
 have hl := hF.len
 have hS := hide (hF.below sta_fd (hw.mono hB))
 simp only [hdB, Bool.and_eq_true, decide_eq_true_eq] at hm
 have hle := hm.1.2.2
 have hws : ∀ f ∈ h.fields, 1 ≤ f.2 ∧ f.2 ≤ 128 := fun f hf => by
  have := List.all_eq_true.1 hm.2 f hf
  simp only [fdB, widthB, Bool.and_eq_true, decide_eq_true_eq] at this
  exact this.2
 have hsum : ∀ k, 0 ≤ bitsN (h.fields.take k) ∧ bitsN (h.fields.take k) ≤ 2048 := fun k => by
  have := bitsN_le (l := h.fields.take k) fun f hf => hws f (List.mem_of_mem_take hf)
  rw [List.length_take] at this
  omega
 have hws' := hide hws
 have hsum' := hide hsum
 have hv := hide (show bitsI h = bitsN h.fields from rfl)
 replace hw := hide hw
 clear hcb hm hws hsum hF
 go_enter Tryz.func81, Tryz.ntmps81
 go_wp2
 go_loopw [2, 8] (fun n i wr => ∃ k : Nat, k ≤ h.fields.length ∧ i = .int .i64 k ∧ n = .int .i64 (bitsN (h.fields.take k)) ∧ Hid (Below (w.heap.size + 1) wb wr) ∧ w.heap.size + 1 ≤ wr.heap.size) (fun _ i _ => h.fields.length - (intOf i).toNat)
 case atStart => exact ⟨0, Nat.zero_le _, rfl, by simp [bitsN], hide (Below.refl _ _), by omega⟩
 case round =>
  obtain ⟨k, hk, rfl, rfl, hbr, hzr⟩ := hrel
  have hc := bcell' hbr.out
  by_cases hlt : k < h.fields.length
  ·obtain ⟨b, o, ecs, hA, hb, hel, hcell, rfl, hz, hi⟩ := hS.out.2 k _ (List.getElem?_eq_getElem hlt)
   subst hA
   have hltz : (k : Int) < (h.fields.length : Int) := by omega
   have x0 : wb.cell? ⟨b, o + k * 2, none⟩ = some (.string h.fields[k].1) := by simpa using hcell 0 _ rfl
   have x1 : wb.cell? ⟨b, o + k * 2 + 1, none⟩ = some (.int .i64 h.fields[k].2) := hcell 1 _ rfl
   have ht := hide (bitsN_take hlt)
   obtain ⟨s1, s2⟩ := hsum'.out k
   obtain ⟨t1, t2⟩ := hws'.out _ (List.getElem_mem hlt)
   obtain ⟨wf, hwf, hzf, hbf, hcf, -⟩ := box1 wr #[.string h.fields[k].1, .int .i64 h.fields[k].2] 84
   have f0 : wf.cell? ⟨wr.heap.size, 0, none⟩ = some (.string h.fields[k].1) := hcf 0
   have f1 : wf.cell? ⟨wr.heap.size, 1, none⟩ = some (.int .i64 h.fields[k].2) := hcf 1
   replace hbf := hide (hbr.out.trans (hbf.mono hzr))
   have hb' : b < w.heap.size + 1 := by omega
   clear hcell hcf
   generalize bitsN (h.fields.take k) = z at *
   go_wp2
   go_roundw
   case rel => exact ⟨k + 1, by omega, by go_num, by rw [ht.out], hbf, by omega⟩
   case measure => simp [intOf]; omega
  ·go_wp2
   go_ret
   rw [hv.out, List.take_of_length_le (by omega)]
   exact ⟨rfl, hw.out.trans (hbr.out.mono (Nat.le_succ _))⟩
end Go.Proofs.YtbbdhknagofghaaGreat
/-! Layer 7's small ones: is, either, ofField and the names' closures. -/
namespace Go.Proofs.YtbbdhknagofghaaGreat
open Go.RowKit
set_option maxHeartbeats 400000 in
theorem is_any (b : Bool) (n : Int) (w : World) : Calls Tryz.prog 80 #[.bool b, .int .i64 n] w fun e w' => e = .returned (.int .i64 (isI b n)) ∧ w = w' := by
 go_enter Tryz.func80, Tryz.ntmps80
 cases b <;> (go_wp2; go_ret; exact ⟨rfl, rfl⟩)
set_option maxHeartbeats 400000 in
theorem either_any (e f : Int) (w : World) : Calls Tryz.prog 82 #[.int .i64 e, .int .i64 f] w fun r w' => r = .returned (.int .i64 (eitherI e f)) ∧ w = w' := by
 go_enter Tryz.func82, Tryz.ntmps82
 by_cases h : e = 0
 ·have hv := hide (show eitherI e f = f from by simp [eitherI, h])
  subst h
  go_wp2
  go_ret
  exact ⟨ret_int hv.out.symm, rfl⟩
 ·have hv := hide (show eitherI e f = e from by simp [eitherI, h])
  go_wp2
  go_ret
  exact ⟨ret_int hv.out.symm, rfl⟩
end Go.Proofs.YtbbdhknagofghaaGreat
/-! Layer 7: Names: is all that an expression names there? -/
namespace Go.Proofs.YtbbdhknagofghaaGreat
open Go.RowKit
theorem namesI_ne (p : Pg) (act : Int) (e : Ex) : (namesI p act e != 0) = !thereE p act e := by
 unfold namesI isI
 cases thereE p act e <;> rfl
theorem all_take_succ {α : Type} {f : α → Bool} {l : List α} {k : Nat} (hk : k < l.length) : (l.take (k + 1)).all f = ((l.take k).all f && f l[k]) := by
 rw [List.take_succ_eq_append_getElem hk, List.all_append]; simp
theorem PgS.more {w : World} {B B' : Nat} {A1 A2 A3 A4 A5 A6 A7 : Option Addr} {p : Pg} (h : PgS w B A1 A2 A3 A4 A5 A6 A7 p) (hB : B ≤ B') : PgS w B' A1 A2 A3 A4 A5 A6 A7 p :=
 ⟨h.1.more sta_hd hB, h.2.more sta_fd hB, h.3.more sta_sa hB, h.4.more sta_ac hB, h.5.more sta_ta hB, h.6.more sta_st hB, h.7.more sta_str hB⟩
set_option maxRecDepth 100000 in
set_option maxHeartbeats 4000000 in
theorem names_any (A1 A2 A3 A4 A5 A6 A7 : Option Addr) (p : Pg) (c1 c2 c3 c4 c5 c6 c7 : Nat) (act : Int) (B : Nat) (e : Ex) : ∀ (cs : List Value) (w : World), B ≤ w.heap.size → PgS w B A1 A2 A3 A4 A5 A6 A7 p → rEx w B cs e →
  Calls Tryz.prog 91 #[.agg #[.slice A1 p.headers.length c1, .slice A2 p.metas.length c2, .slice A3 p.states.length c3, .slice A4 p.actions.length c4, .slice A5 p.tables.length c5, .slice A6 p.control.length c6, .slice A7 p.emit.length c7], .int .i64 act, .agg cs.toArray] w fun r w' => r = .returned (.int .i64 (namesI p act e)) ∧ Below w.heap.size w w' := by
 induction e using Ex.ind with
 | h op lit head name hi lo args ih =>
  intro cs w hB hP h
  obtain ⟨A, cap, rfl, -, -, -, -, -, -, hs⟩ := RE.inv h
  have hl := hs.len
  replace ih := hide ih
  clear h
  show Calls _ _ #[.agg #[.slice A1 p.headers.length c1, .slice A2 p.metas.length c2, .slice A3 p.states.length c3, .slice A4 p.actions.length c4, .slice A5 p.tables.length c5, .slice A6 p.control.length c6, .slice A7 p.emit.length c7], .int .i64 act, .agg #[.int .u8 op, .int .i64 lit.1, .int .u64 lit.2.1, .int .u64 lit.2.2, .string head, .string name, .int .i64 hi, .int .i64 lo, .slice A args.length cap]] _ _
  obtain ⟨wa, hwa, hsa, hba, hca, -⟩ := box1 w #[.slice A1 p.headers.length c1, .slice A2 p.metas.length c2, .slice A3 p.states.length c3, .slice A4 p.actions.length c4, .slice A5 p.tables.length c5, .slice A6 p.control.length c6, .slice A7 p.emit.length c7] 30
  obtain ⟨wb, hwb, hsb, hbb, hcb, -⟩ := box1 wa #[.int .u8 op, .int .i64 lit.1, .int .u64 lit.2.1, .int .u64 lit.2.2, .string head, .string name, .int .i64 hi, .int .i64 lo, .slice A args.length cap] 45
  have hw := hba.trans (hbb.mono (by omega))
  obtain ⟨y0, y1, y2, y3, y4, y5, y6⟩ := row7 (w := wa) (a := w.heap.size) fun i => hca i
  have q : ∀ i, wb.cell? ⟨w.heap.size, i, none⟩ = wa.cell? ⟨w.heap.size, i, none⟩ := fun i => hbb.cell (p := ⟨w.heap.size, i, none⟩) (by show w.heap.size < _; omega)
  obtain ⟨z0, z1, z2, z3, z4, z5, z6⟩ := row7 (w := wb) (a := w.heap.size) fun i => (q _).trans <| hca i
  have e0 : wb.cell? ⟨w.heap.size + 1, 0, none⟩ = some (.int .u8 op) := by have := hcb 0; rw [hsa] at this; exact this
  have e4 : wb.cell? ⟨w.heap.size + 1, 4, none⟩ = some (.string head) := by have := hcb 4; rw [hsa] at this; exact this
  have e5 : wb.cell? ⟨w.heap.size + 1, 5, none⟩ = some (.string name) := by have := hcb 5; rw [hsa] at this; exact this
  have e8 : wb.cell? ⟨w.heap.size + 1, 8, none⟩ = some (.slice A args.length cap) := by have := hcb 8; rw [hsa] at this; exact this
  have hS := hide (hs.below sta_ex (hw.mono hB))
  have hP2 := hide (hP.below (hw.mono hB))
  have hzb : w.heap.size + 2 = wb.heap.size := by omega
  have hv := hide (show namesI p act (.mk op lit head name hi lo args) = isI (!(ownB p act op head name && args.all (thereE p act))) 7 from by simp only [namesI, thereE, thereL_all])
  replace hw := hide hw
  have hb0 : Below wb.heap.size wb wb := Below.refl _ _
  have hl1 : w.heap.size < wb.heap.size := by omega
  have hl2 : w.heap.size + 1 < wb.heap.size := by omega
  have hz2 : w.heap.size + 2 ≤ wb.heap.size := by omega
  clear hca hcb hs hP q y0 y1 y2 y3 y4 y5 y6 hba hbb hzb

  replace hsb := hide hsb
  go_enter Tryz.func91, Tryz.ntmps91
  go_upto_block 0 with (fail)
  go_cut [7] (fun m wx => ∃ t : Bool, m = .bool t ∧ Hid (t = !ownB p act op head name) ∧ Hid (Below wb.heap.size wb wx) ∧ wb.heap.size ≤ wx.heap.size)
  case first =>
   have hg := gcell' hb0 (Nat.le_refl _)
   by_cases h2 : op = 2
   ·have o2 := hide (show ownB p act op head name = decide (0 ≤ fieldI p (headerI p head) name) from by simp [ownB, h2])
    subst h2
    have hH : ∀ d os, Hid (Calls Tryz.prog 83 #[.agg #[.slice A1 p.headers.length c1, .slice A2 p.metas.length c2, .slice A3 p.states.length c3, .slice A4 p.actions.length c4, .slice A5 p.tables.length c5, .slice A6 p.control.length c6, .slice A7 p.emit.length c7], .string head] (Go.Sort.grow (redrawn wb d) os) _) := fun d os => hide (header_any _ A1 A2 A3 A4 A5 A6 A7 p c1 c2 c3 c4 c5 c6 c7 head (by have := gsize wb d os; omega) (hP2.out.below ((below_grow hb0 (by omega) d os).mono (by omega))))
    have hF : ∀ d os, Hid (Calls Tryz.prog 84 #[.agg #[.slice A1 p.headers.length c1, .slice A2 p.metas.length c2, .slice A3 p.states.length c3, .slice A4 p.actions.length c4, .slice A5 p.tables.length c5, .slice A6 p.control.length c6, .slice A7 p.emit.length c7], .int .i64 (headerI p head), .string name] (Go.Sort.grow (redrawn wb d) os) _) := fun d os => hide (field_any _ A1 A2 A3 A4 A5 A6 A7 p c1 c2 c3 c4 c5 c6 c7 (headerI p head) name (by have := gsize wb d os; omega) (hP2.out.below ((below_grow hb0 (by omega) d os).mono (by omega))))
    generalize fieldI p (headerI p head) name = z at o2 hF
    generalize headerI p head = y at hH hF
    go_wp2_with fail
    refine wp_region_quiet_below (by kernel_rfl) (by kernel_rfl) ?_
    repeat (any_goals (first | go_big_quiet_step (first | (go_at_call 83; with_reducible exact Calls.regrown_of (hH _ _).out) | (go_at_call 84; with_reducible exact Calls.regrown_of (hF _ _).out)) | quiet_step (first | (go_at_call 83; with_reducible exact Calls.regrown_of (hH _ _).out) | (go_at_call 84; with_reducible exact Calls.regrown_of (hF _ _).out))))
    refine wpQuiet_nil ?_
    intro w1 hw1
    replace hw1 := below_of_regrown hw1
    go_wp2
    go_meet
    exact ⟨_, rfl, hide (by rw [o2.out, ← decide_not]; simp), hide hw1, hw1.size⟩
   ·by_cases h3 : op = 3
    ·have o2 := hide (show ownB p act op head name = decide (0 ≤ metaI p name) from by simp [ownB, h3])
     have hX := hide (meta_any wb A1 A2 A3 A4 A5 A6 A7 p c1 c2 c3 c4 c5 c6 c7 name (show B ≤ wb.heap.size by omega) hP2.out)
     generalize metaI p name = z at o2 hX
     subst h3
     clear h2
     go_wp2_with (go_at_call 85; refine hX.out.mono ?_; rintro e w1 ⟨rfl, hw1⟩)
     go_meet
     exact ⟨_, rfl, hide (by rw [o2.out, ← decide_not]; simp), hide hw1, hw1.size⟩
    ·by_cases h4 : op = 4
     ·have o2 := hide (show ownB p act op head name = decide (0 ≤ paramI p act name) from by simp [ownB, h4])
      have hX := hide (param_any wb A1 A2 A3 A4 A5 A6 A7 p c1 c2 c3 c4 c5 c6 c7 act name (show B ≤ wb.heap.size by omega) hP2.out)
      generalize paramI p act name = z at o2 hX
      subst h4
      clear h2 h3
      go_wp2_with (go_at_call 88; refine hX.out.mono ?_; rintro e w1 ⟨rfl, hw1⟩)
      go_meet
      exact ⟨_, rfl, hide (by rw [o2.out, ← decide_not]; simp), hide hw1, hw1.size⟩
     ·by_cases h6 : op = 6
      ·have o2 := hide (show ownB p act op head name = decide (0 ≤ headerI p head) from by simp [ownB, h6])
       have hX := hide (header_any wb A1 A2 A3 A4 A5 A6 A7 p c1 c2 c3 c4 c5 c6 c7 head (show B ≤ wb.heap.size by omega) hP2.out)
       generalize headerI p head = z at o2 hX
       subst h6
       clear h2 h3 h4
       go_wp2_with (go_at_call 83; refine hX.out.mono ?_; rintro e w1 ⟨rfl, hw1⟩)
       go_meet
       exact ⟨_, rfl, hide (by rw [o2.out, ← decide_not]; simp), hide hw1, hw1.size⟩
      ·have o2 := hide (show ownB p act op head name = true from by simp [ownB, h2, h3, h4, h6])
       go_wp2
       go_meet
       exact ⟨_, rfl, hide (by rw [o2.out]; rfl), hide hb0, Nat.le_refl _⟩
  case rest =>
   obtain ⟨t, rfl, hct, hbc, hzc⟩ := hcut
   obtain ⟨wd, rfl⟩ : ∃ wd : World, wd = wc := ⟨_, rfl⟩
   have hc := bcell' hbc.out
   generalize ownB p act op head name = g at hv hct
   go_wp2
   go_loopw [7, 48] (fun m i wr => ∃ k : Nat, k ≤ args.length ∧ i = .int .i64 k ∧ (∃ t : Bool, m = .bool t ∧ Hid (t = !(g && (args.take k).all (thereE p act)))) ∧ Hid (Below wb.heap.size wb wr) ∧ wb.heap.size ≤ wr.heap.size) (fun _ i _ => args.length - (intOf i).toNat)
   case atStart => exact ⟨0, Nat.zero_le _, rfl, ⟨t, rfl, hide (by rw [hct.out]; simp)⟩, hbc, hzc⟩
   case round =>
    clear hc hbc hzc hct t
    obtain ⟨k, hk, rfl, ⟨t, rfl, ht0⟩, hbr, hzr⟩ := hrel
    have hc := bcell' hbr.out
    by_cases hlt : k < args.length
    ·obtain ⟨b, o, ecs, hA, hb, hel, hcell, hr⟩ := hS.out.2 k _ (List.getElem?_eq_getElem hlt)
     subst hA
     have hltz : (k : Int) < (args.length : Int) := by omega
     have hcall := fun (wx : World) (h1 : wb.heap.size ≤ wx.heap.size) (h2 : Below wb.heap.size wb wx) => ih.out _ (List.getElem_mem hlt) ecs wx (by omega) (hP2.out.below (h2.mono (by omega))) (sta_ex.keep hr fun q hq => (h2.mono (show B ≤ _ by omega)).cell hq)
     have hne := hide (namesI_ne p act args[k])
     have ht := hide (all_take_succ (f := thereE p act) hlt)
     have hrc := hide hr
     generalize args[k] = x at hr
     obtain ⟨op', lit', head', name', hi', lo', args'⟩ := x
     obtain ⟨A', cap', rfl, -, -, -, -, -, -, hs'⟩ := RE.inv hr
     have hl' := hs'.len
     obtain ⟨wx, hwx, hzx, hbx, hcx, -⟩ := box1 wr #[.int .u8 op', .int .i64 lit'.1, .int .u64 lit'.2.1, .int .u64 lit'.2.2, .string head', .string name', .int .i64 hi', .int .i64 lo', .slice A' args'.length cap'] 45
     have x0 : wb.cell? ⟨b, o + k * 9, none⟩ = some (.int .u8 op') := by simpa using hcell 0 _ rfl
     have x1 : wb.cell? ⟨b, o + k * 9 + 1, none⟩ = some (.int .i64 lit'.1) := hcell 1 _ rfl
     have x2 : wb.cell? ⟨b, o + k * 9 + 2, none⟩ = some (.int .u64 lit'.2.1) := hcell 2 _ rfl
     have x3 : wb.cell? ⟨b, o + k * 9 + 3, none⟩ = some (.int .u64 lit'.2.2) := hcell 3 _ rfl
     have x4 : wb.cell? ⟨b, o + k * 9 + 4, none⟩ = some (.string head') := hcell 4 _ rfl
     have x5 : wb.cell? ⟨b, o + k * 9 + 5, none⟩ = some (.string name') := hcell 5 _ rfl
     have x6 : wb.cell? ⟨b, o + k * 9 + 6, none⟩ = some (.int .i64 hi') := hcell 6 _ rfl
     have x7 : wb.cell? ⟨b, o + k * 9 + 7, none⟩ = some (.int .i64 lo') := hcell 7 _ rfl
     have x8 : wb.cell? ⟨b, o + k * 9 + 8, none⟩ = some (.slice A' args'.length cap') := hcell 8 _ rfl
     have v0 : wx.cell? ⟨wr.heap.size, 0, none⟩ = some (.int .u8 op') := hcx 0
     have v1 : wx.cell? ⟨wr.heap.size, 1, none⟩ = some (.int .i64 lit'.1) := hcx 1
     have v2 : wx.cell? ⟨wr.heap.size, 2, none⟩ = some (.int .u64 lit'.2.1) := hcx 2
     have v3 : wx.cell? ⟨wr.heap.size, 3, none⟩ = some (.int .u64 lit'.2.2) := hcx 3
     have v4 : wx.cell? ⟨wr.heap.size, 4, none⟩ = some (.string head') := hcx 4
     have v5 : wx.cell? ⟨wr.heap.size, 5, none⟩ = some (.string name') := hcx 5
     have v6 : wx.cell? ⟨wr.heap.size, 6, none⟩ = some (.int .i64 hi') := hcx 6
     have v7 : wx.cell? ⟨wr.heap.size, 7, none⟩ = some (.int .i64 lo') := hcx 7
     have v8 : wx.cell? ⟨wr.heap.size, 8, none⟩ = some (.slice A' args'.length cap') := hcx 8
     have hbX := hbr.out.trans (hbx.mono hzr)
     have hcX := bcell' hbX
     have hX : Calls Tryz.prog 91 #[.agg #[.slice A1 p.headers.length c1, .slice A2 p.metas.length c2, .slice A3 p.states.length c3, .slice A4 p.actions.length c4, .slice A5 p.tables.length c5, .slice A6 p.control.length c6, .slice A7 p.emit.length c7], .int .i64 act, .agg #[.int .u8 op', .int .i64 lit'.1, .int .u64 lit'.2.1, .int .u64 lit'.2.2, .string head', .string name', .int .i64 hi', .int .i64 lo', .slice A' args'.length cap']] wx _ := hcall wx (by omega) hbX
     replace hbX := hide hbX
     have hb' : b < wb.heap.size := by omega
     have hX' := hide hX
     clear hcell hr hcx hbx hcall hX hrc hs'
     cases t with
     | true =>
      go_wp2
      go_roundw
      case rel => exact ⟨k + 1, by omega, by go_num, ⟨_, rfl, hide (by rw [ht.out]; have := ht0.out; revert this; cases g <;> cases (args.take k).all (thereE p act) <;> simp)⟩, hbX, by omega⟩
      case measure => simp [intOf]; omega
     | false =>
      go_wp2_with (go_at_call 91; refine hX'.out.mono ?_; rintro e w' ⟨rfl, hw1⟩)
      go_roundw
      case rel => exact ⟨k + 1, by omega, by go_num, ⟨_, rfl, hide (by rw [ht.out]; have := ht0.out; revert this; rw [hne.out]; cases g <;> cases (args.take k).all (thereE p act) <;> simp)⟩, hide (hbX.out.trans (hw1.mono (by omega))), by have := hw1.size; omega⟩
      case measure => simp [intOf]; omega
    ·have hfull := hide (show t = !(g && args.all (thereE p act)) from by rw [ht0.out, List.take_of_length_le (by omega)])
     go_wp2_with (go_at_call 80; refine (is_any _ _ _).mono ?_; rintro e w' ⟨rfl, rfl⟩)
     go_ret
     exact ⟨ret_int (by rw [hv.out, hfull.out]), hw.out.trans (hbr.out.mono (by omega))⟩
end Go.Proofs.YtbbdhknagofghaaGreat

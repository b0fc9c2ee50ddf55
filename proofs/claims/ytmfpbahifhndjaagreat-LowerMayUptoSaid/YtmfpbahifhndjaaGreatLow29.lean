import Derived.Test.YtmfpbahifhndjaaGreatLow28
import Derived.Deep.DeepCutAuto
set_option linter.all false
/-! Printed by gen_code.py. Layer 10: code, of a comparison. -/
namespace Go.Proofs.YtmfpbahifhndjaaGreat
open Go.RowKit
/-- A node's box, of whatever block. -/
def NBox (wz wx : World) (g : Nat) (n : Nd) : Prop :=
 Below wz.heap.size wz wx ∧ wz.heap.size ≤ g ∧ g < wx.heap.size ∧ wx.cell? ⟨g, 0, none⟩ = some (.int .u8 n.op) ∧ wx.cell? ⟨g, 1, none⟩ = some (.int .i64 n.w) ∧ wx.cell? ⟨g, 2, none⟩ = some (.int .i64 n.a) ∧ wx.cell? ⟨g, 3, none⟩ = some (.int .i64 n.b) ∧ wx.cell? ⟨g, 4, none⟩ = some (.int .u64 n.hi) ∧ wx.cell? ⟨g, 5, none⟩ = some (.int .u64 n.lo)
theorem NBox.new {wz w3 : World} (h : Below wz.heap.size wz w3) (n : Nd) : NBox wz (w3.alloc (.cells #[.int .u8 n.op, .int .i64 n.w, .int .i64 n.a, .int .i64 n.b, .int .u64 n.hi, .int .u64 n.lo] 79)) w3.heap.size n := by
 have hc : ∀ i, (w3.alloc (.cells #[.int .u8 n.op, .int .i64 n.w, .int .i64 n.a, .int .i64 n.b, .int .u64 n.hi, .int .u64 n.lo] 79)).cell? ⟨w3.heap.size, i, none⟩ = (#[.int .u8 n.op, .int .i64 n.w, .int .i64 n.a, .int .i64 n.b, .int .u64 n.hi, .int .u64 n.lo] : Array Value)[i]? := fun _ => World.cell?_alloc_at _ _ _ _ rfl
 exact ⟨h.alloc h.size _, h.size, by simp, hc 0, hc 1, hc 2, hc 3, hc 4, hc 5⟩
abbrev set6 (w : World) (g : Nat) (n : Nd) : World := (((((w.setCell ⟨g, 0, none⟩ (.int .u8 n.op)).setCell ⟨g, 1, none⟩ (.int .i64 n.w)).setCell ⟨g, 2, none⟩ (.int .i64 n.a)).setCell ⟨g, 3, none⟩ (.int .i64 n.b)).setCell ⟨g, 4, none⟩ (.int .u64 n.hi)).setCell ⟨g, 5, none⟩ (.int .u64 n.lo)
theorem below_set6 {B g : Nat} {w W : World} (h : Below B w W) (ha : B ≤ g) (n : Nd) : Below B w (set6 W g n) :=
 (((((h.setCell (p := ⟨g, 0, none⟩) ha _).setCell (p := ⟨g, 1, none⟩) ha _).setCell (p := ⟨g, 2, none⟩) ha _).setCell (p := ⟨g, 3, none⟩) ha _).setCell (p := ⟨g, 4, none⟩) ha _).setCell (p := ⟨g, 5, none⟩) ha _
theorem NBox.set {wz w2 w3 : World} (h2 : w2 = (wz.alloc (.cells #[.int .u8 0, .int .i64 0, .int .i64 0, .int .i64 0, .int .u64 0, .int .u64 0] 79)).drew) (h3 : Below wz.heap.size wz w3) (h4 : Below w2.heap.size w2 w3) (n : Nd) :
  NBox wz (set6 w3 wz.heap.size n) wz.heap.size n := by
 have hs : w2.heap.size = wz.heap.size + 1 := by rw [h2]; show (wz.alloc _).heap.size = _; simp
 have hc : ∀ i, w2.cell? ⟨wz.heap.size, i, none⟩ = (#[.int .u8 0, .int .i64 0, .int .i64 0, .int .i64 0, .int .u64 0, .int .u64 0] : Array Value)[i]? := fun i => by rw [h2]; exact World.cell?_alloc_at (w := wz) _ _ _ _ rfl
 have hc3 := fun i => (h4.cell (p := ⟨wz.heap.size, i, none⟩) (by show wz.heap.size < _; omega)).trans (hc i)
 have c0 := hc3 0
 have c1 := hc3 1
 have c2 := hc3 2
 have c3 := hc3 3
 have c4 := hc3 4
 have c5 := hc3 5
 have hlt : wz.heap.size < w3.heap.size := by have := h4.size; omega
 simp at c0 c1 c2 c3 c4 c5
 refine ⟨below_set6 h3 (Nat.le_refl _) _, Nat.le_refl _, by simpa [set6, World.setCell] using hlt, ?_, ?_, ?_, ?_, ?_, ?_⟩ <;> simp [set6, go_sem, c0, c1, c2, c3, c4, c5]
/-- Two codes side by side, as they are handed on. -/
theorem two_parts {w3 w4 : World} {b1 b2 c1 c2 : Nat} {A1 A2 : Option Addr} {ca cb : List Nd} (h1 : NdS w3 b1 (.slice A1 ca.length c1) ca) (hb : Below w3.heap.size w3 w4) (h2 : NdS w4 b2 (.slice A2 cb.length c2) cb) :
  Sl 1 rCd (w4.alloc (.cells #[.slice A1 ca.length c1, .slice A2 cb.length c2] 35)) (w4.alloc (.cells #[.slice A1 ca.length c1, .slice A2 cb.length c2] 35)).heap.size (some ⟨w4.heap.size, 0, none⟩) [ca, cb] := by
 obtain ⟨X1, y1, e1, s1⟩ := (h1.below hb (Nat.le_refl _)).sl
 obtain ⟨X2, y2, e2, s2⟩ := h2.sl
 injection e1 with e1 _ e1'
 injection e2 with e2 _ e2'
 subst e1 e1' e2 e2'
 have hba : Below w4.heap.size w4 (w4.alloc (.cells #[.slice A1 ca.length c1, .slice A2 cb.length c2] 35)) := (Below.refl _ _).alloc (Nat.le_refl _) _
 have hc : ∀ i, (w4.alloc (.cells #[.slice A1 ca.length c1, .slice A2 cb.length c2] 35)).cell? ⟨w4.heap.size, i, none⟩ = (#[.slice A1 ca.length c1, .slice A2 cb.length c2] : Array Value)[i]? := fun _ => World.cell?_alloc_at _ _ _ _ rfl
 refine ⟨by simp [maxLen], fun i x hx => ?_⟩
 have hi : i < 2 := (List.getElem?_eq_some_iff.1 hx).1
 rcases i with _ | _ | i
 ·simp at hx
  subst hx
  refine ⟨w4.heap.size, 0, [.slice A1 ca.length c1], rfl, by simp, rfl, fun j u hu => ?_, A1, c1, rfl, (s1.below sta_nd hba).more sta_nd hba.size⟩
  have hj : j = 0 := by have := (List.getElem?_eq_some_iff.1 hu).1; simpa using this
  subst hj
  simp at hu
  subst hu
  exact hc 0
 ·simp at hx
  subst hx
  refine ⟨w4.heap.size, 0, [.slice A2 cb.length c2], rfl, by simp, rfl, fun j u hu => ?_, A2, c2, rfl, (s2.below sta_nd hba).more sta_nd hba.size⟩
  have hj : j = 0 := by have := (List.getElem?_eq_some_iff.1 hu).1; simpa using this
  subst hj
  simp at hu
  subst hu
  exact hc 1
 ·omega
theorem ops_look (W : World) (k : Nat) (hk : W.heap.size = k) : Calls Tryz.prog 83 #[] W fun e w4 => e = .returned (.map (some k)) ∧ Below W.heap.size W w4 ∧ (∀ e : Int, (Instr.lookup 141 (.map (some k)) (.int .u8 e) false).run Tryz.prog w4 = .ok (.int .u8 (opU e)) w4) ∧ ∀ (e : Int) o, (Instr.lookup 141 (.map (some k)) (.int .u8 e) false).run Tryz.prog (w4.alloc o) = .ok (.int .u8 (opU e)) (w4.alloc o) := by
 subst hk
 exact (ops_any W).mono fun _ _ ⟨h1, h2, h3⟩ => ⟨h1, h3, fun e => run_lookupU h2 e, fun e o => run_lookupU (h2.below ((Below.refl _ _).alloc (Nat.le_refl _) o) h2.lt) e⟩
/-- What looks up in the map that ops has laid. -/
def Looks (k : Nat) (w4 : World) : Prop := (∀ e : Int, (Instr.lookup 141 (.map (some k)) (.int .u8 e) false).run Tryz.prog w4 = .ok (.int .u8 (opU e)) w4) ∧ ∀ (e : Int) o, (Instr.lookup 141 (.map (some k)) (.int .u8 e) false).run Tryz.prog (w4.alloc o) = .ok (.int .u8 (opU e)) (w4.alloc o)
theorem ops_at1 (w3 : World) : Calls Tryz.prog 83 #[] w3.drew fun e w4 => e = .returned (.map (some w3.heap.size)) ∧ Below w3.heap.size w3 w4 ∧ Looks w3.heap.size w4 :=
 (ops_look w3.drew w3.heap.size rfl).mono fun _ _ ⟨h1, h2, h3⟩ => ⟨h1, (Below.refl _ _).drew.trans h2, h3⟩
theorem ops_at2 (w3 : World) : Calls Tryz.prog 83 #[] (w3.alloc (.cells #[.int .u8 0, .int .i64 0, .int .i64 0, .int .i64 0, .int .u64 0, .int .u64 0] 79)).drew fun e w4 => e = .returned (.map (some (w3.heap.size + 1))) ∧ Below w3.heap.size w3 w4 ∧ Looks (w3.heap.size + 1) w4 ∧ Hid (Below (w3.alloc (.cells #[.int .u8 0, .int .i64 0, .int .i64 0, .int .i64 0, .int .u64 0, .int .u64 0] 79)).drew.heap.size (w3.alloc (.cells #[.int .u8 0, .int .i64 0, .int .i64 0, .int .i64 0, .int .u64 0, .int .u64 0] 79)).drew w4) ∧
  (w4.cell? ⟨w3.heap.size, 0, none⟩ = some (.int .u8 0) ∧ w4.cell? ⟨w3.heap.size, 1, none⟩ = some (.int .i64 0) ∧ w4.cell? ⟨w3.heap.size, 2, none⟩ = some (.int .i64 0) ∧ w4.cell? ⟨w3.heap.size, 3, none⟩ = some (.int .i64 0) ∧ w4.cell? ⟨w3.heap.size, 4, none⟩ = some (.int .u64 0) ∧ w4.cell? ⟨w3.heap.size, 5, none⟩ = some (.int .u64 0)) ∧
  (w4.frozen? ⟨w3.heap.size, 0, none⟩ = false ∧ w4.frozen? ⟨w3.heap.size, 1, none⟩ = false ∧ w4.frozen? ⟨w3.heap.size, 2, none⟩ = false ∧ w4.frozen? ⟨w3.heap.size, 3, none⟩ = false ∧ w4.frozen? ⟨w3.heap.size, 4, none⟩ = false ∧ w4.frozen? ⟨w3.heap.size, 5, none⟩ = false) := by
 refine (ops_look (w3.alloc (.cells #[.int .u8 0, .int .i64 0, .int .i64 0, .int .i64 0, .int .u64 0, .int .u64 0] 79)).drew (w3.heap.size + 1) (by show (w3.alloc _).heap.size = _; simp)).mono ?_
 rintro e w4 ⟨h1, h2, h3⟩
 have hs : (w3.alloc (.cells #[.int .u8 0, .int .i64 0, .int .i64 0, .int .i64 0, .int .u64 0, .int .u64 0] 79)).drew.heap.size = w3.heap.size + 1 := by show (w3.alloc _).heap.size = _; simp
 have hc : ∀ i, w4.cell? ⟨w3.heap.size, i, none⟩ = (#[.int .u8 0, .int .i64 0, .int .i64 0, .int .i64 0, .int .u64 0, .int .u64 0] : Array Value)[i]? := fun i => (h2.cell (p := ⟨w3.heap.size, i, none⟩) (by show w3.heap.size < _; omega)).trans (World.cell?_alloc_at (w := w3) _ _ _ _ rfl)
 have hf : ∀ i, w4.frozen? ⟨w3.heap.size, i, none⟩ = false := fun i => (h2.frozen (p := ⟨w3.heap.size, i, none⟩) (by show w3.heap.size < _; omega)).trans (World.frozen?_alloc_at (w := w3) _ _ _ _ rfl)
 exact ⟨h1, ((Below.refl _ _).alloc (Nat.le_refl _) _).drew.trans (h2.mono (by omega)), h3, hide h2, ⟨hc 0, hc 1, hc 2, hc 3, hc 4, hc 5⟩, hf 0, hf 1, hf 2, hf 3, hf 4, hf 5⟩
set_option maxRecDepth 100000 in
set_option maxHeartbeats 8000000 in
theorem code_gt (A1 A2 A3 A4 A5 A6 A7 : Option Addr) (p : Pg) (c1 c2 c3 c4 c5 c6 c7 : Nat) {m act : Int} {B : Nat} (h0 : 0 < B) (hm : wideP p = true) (lit : Lt) (head name : ByteArray) (hi lo asked : Int) (a b : Ex) (ca cb : List Nd)
  (iha : CodeIs A1 A2 A3 A4 A5 A6 A7 p c1 c2 c3 c4 c5 c6 c7 m act B a (widthE p act a (widthE p act b 0)) ca) (ihb : CodeIs A1 A2 A3 A4 A5 A6 A7 p c1 c2 c3 c4 c5 c6 c7 m act B b (widthE p act a (widthE p act b 0)) cb) (hca : 0 < ca.length) (hcb : 0 < cb.length) (hle : ca.length + cb.length ≤ 1000) :
  CodeIs A1 A2 A3 A4 A5 A6 A7 p c1 c2 c3 c4 c5 c6 c7 m act B (.mk 23 lit head name hi lo [a, b]) asked ((ca ++ cb ++ [⟨20, widthE p act (.mk 23 lit head name hi lo [a, b]) asked, 0, 0, 0, 0⟩]) ++ [ndNot]) := by
 intro cs w hB hz hP hr
 have hr' := hr
 obtain ⟨A, cap, rfl, -, -, -, -, -, -, hs⟩ := RE.inv hr'
 clear hr'
 obtain ⟨g, o, eca, hAa, hba, hela, hcella, hra⟩ := hs.2 0 a rfl
 subst hAa
 obtain ⟨g', o', ecb, hAb, hbb, helb, hcellb, hrb⟩ := hs.2 1 b rfl
 obtain ⟨rfl, rfl⟩ : g = g' ∧ o = o' := by simpa using hAb
 show Calls _ _ #[.agg #[.slice A1 p.headers.length c1, .slice A2 p.metas.length c2, .slice A3 p.states.length c3, .slice A4 p.actions.length c4, .slice A5 p.tables.length c5, .slice A6 p.control.length c6, .slice A7 p.emit.length c7, .int .i64 act], .agg #[.int .u8 23, .int .i64 lit.1, .int .u64 lit.2.1, .int .u64 lit.2.2, .string head, .string name, .int .i64 hi, .int .i64 lo, .slice (some ⟨g, o, none⟩) 2 cap], .int .i64 asked] _ _
 obtain ⟨wv, hwv, hsv, hbv, hcv, -⟩ := box1 w #[.slice A1 p.headers.length c1, .slice A2 p.metas.length c2, .slice A3 p.states.length c3, .slice A4 p.actions.length c4, .slice A5 p.tables.length c5, .slice A6 p.control.length c6, .slice A7 p.emit.length c7, .int .i64 act] 111
 obtain ⟨we, hwe, hse, hbe, hce, -⟩ := box1 wv #[.int .u8 23, .int .i64 lit.1, .int .u64 lit.2.1, .int .u64 lit.2.2, .string head, .string name, .int .i64 hi, .int .i64 lo, .slice (some ⟨g, o, none⟩) 2 cap] 65
 have hw : Below w.heap.size w we := hbv.trans (hbe.mono (by omega))
 have hl1 : w.heap.size < we.heap.size := by omega
 have hl2 : wv.heap.size < we.heap.size := by omega
 have hl3 : g < we.heap.size := by omega
 have cv := fun i => (hbe.cell (p := ⟨w.heap.size, i, none⟩) (by show w.heap.size < _; omega)).trans (hcv i)
 obtain ⟨v0, v1, v2, v3, v4, v5, v6, v7⟩ := row8 cv
 obtain ⟨e0, e1, e2, e3, e4, e5, e6, e7, e8⟩ := row9 hce
 have hBe : B ≤ we.heap.size := Nat.le_trans hB hw.size
 have hmz : ∀ W, Below we.heap.size we W → W.cell? ⟨0, 0, none⟩ = some (.int .i64 m) := fun W hW => (hW.cell (p := ⟨0, 0, none⟩) (by show 0 < _; omega)).trans ((hw.cell (p := ⟨0, 0, none⟩) (by show 0 < _; omega)).trans hz)
 have hPW : ∀ W, Below we.heap.size we W → PgS W B A1 A2 A3 A4 A5 A6 A7 p := fun W hW => hP.below ((hw.trans (hW.mono hw.size)).mono hB)
 have hX := lwidth_any A1 A2 A3 A4 A5 A6 A7 p c1 c2 c3 c4 c5 c6 c7 (m := m) (act := act) (B := B) hm (.mk 23 lit head name hi lo [a, b]) asked _ we hBe h0 (hmz _ (Below.refl _ _)) (hPW _ (Below.refl _ _)) (sta_ex.keep hr fun q hq => (hw.mono hB).cell hq)
 have hRa : ∀ W, Below we.heap.size we W → rEx W B eca a := fun W hW => sta_ex.keep hra fun q hq => ((hw.trans (hW.mono hw.size)).mono hB).cell hq
 have hRb : ∀ W, Below we.heap.size we W → rEx W B ecb b := fun W hW => sta_ex.keep hrb fun q hq => ((hw.trans (hW.mono hw.size)).mono hB).cell hq
 have hWa := fun W (hW : Below we.heap.size we W) => lwidth_any A1 A2 A3 A4 A5 A6 A7 p c1 c2 c3 c4 c5 c6 c7 (m := m) (act := act) (B := B) hm a (widthE p act b 0) _ W (Nat.le_trans hBe hW.size) h0 (hmz W hW) (hPW W hW) (hRa W hW)
 have hWb := fun W (hW : Below we.heap.size we W) => lwidth_any A1 A2 A3 A4 A5 A6 A7 p c1 c2 c3 c4 c5 c6 c7 (m := m) (act := act) (B := B) hm b 0 _ W (Nat.le_trans hBe hW.size) h0 (hmz W hW) (hPW W hW) (hRb W hW)
 have hCa := fun W (hW : Below we.heap.size we W) => iha _ W (Nat.le_trans hBe hW.size) (hmz W hW) (hPW W hW) (hRa W hW)
 have hCb := fun W (hW : Below we.heap.size we W) => ihb _ W (Nat.le_trans hBe hW.size) (hmz W hW) (hPW W hW) (hRb W hW)
 generalize widthE p act (.mk 23 lit head name hi lo [a, b]) asked = z at hX ⊢
 generalize widthE p act b 0 = sb at hWa hWb hCa hCb
 generalize widthE p act a sb = sa at hWa hCa hCb
 clear iha ihb hRa hRb hPW hmz hP hr hz
 obtain ⟨opa, lita, heada, namea, hia, loa, argsa⟩ := a
 obtain ⟨Aa, capa, rfl, -, -, -, -, -, -, hsa'⟩ := RE.inv hra
 have la := hsa'.len
 obtain ⟨xa0, xa1, xa2, xa3, xa4, xa5, xa6, xa7, xa8⟩ := srow9 hcella
 simp only [Nat.zero_mul, Nat.one_mul, Nat.add_zero] at xa0 xa1 xa2 xa3 xa4 xa5 xa6 xa7 xa8
 clear hcella hra hsa' hela
 obtain ⟨opb, litb, headb, nameb, hib, lob, argsb⟩ := b
 obtain ⟨Ab, capb, rfl, -, -, -, -, -, -, hsb'⟩ := RE.inv hrb
 have lb := hsb'.len
 obtain ⟨xb0, xb1, xb2, xb3, xb4, xb5, xb6, xb7, xb8⟩ := srow9 hcellb
 simp only [Nat.zero_mul, Nat.one_mul, Nat.add_zero] at xb0 xb1 xb2 xb3 xb4 xb5 xb6 xb7 xb8
 clear hcellb hrb hsb' helb
 replace hX : Hid (Calls Tryz.prog 81 #[.agg #[.slice A1 p.headers.length c1, .slice A2 p.metas.length c2, .slice A3 p.states.length c3, .slice A4 p.actions.length c4, .slice A5 p.tables.length c5, .slice A6 p.control.length c6, .slice A7 p.emit.length c7, .int .i64 act], .agg #[.int .u8 23, .int .i64 lit.1, .int .u64 lit.2.1, .int .u64 lit.2.2, .string head, .string name, .int .i64 hi, .int .i64 lo, .slice (some ⟨g, o, none⟩) 2 cap], .int .i64 asked] we fun e w3 => e = .returned (.int .i64 z) ∧ Below we.heap.size we w3) := hide hX
 replace hWa : Hid (∀ W, Below we.heap.size we W → Calls Tryz.prog 81 #[.agg #[.slice A1 p.headers.length c1, .slice A2 p.metas.length c2, .slice A3 p.states.length c3, .slice A4 p.actions.length c4, .slice A5 p.tables.length c5, .slice A6 p.control.length c6, .slice A7 p.emit.length c7, .int .i64 act], .agg #[.int .u8 opa, .int .i64 lita.1, .int .u64 lita.2.1, .int .u64 lita.2.2, .string heada, .string namea, .int .i64 hia, .int .i64 loa, .slice Aa argsa.length capa], .int .i64 sb] W fun e w3 => e = .returned (.int .i64 sa) ∧ Below W.heap.size W w3) := hide hWa
 replace hWb : Hid (∀ W, Below we.heap.size we W → Calls Tryz.prog 81 #[.agg #[.slice A1 p.headers.length c1, .slice A2 p.metas.length c2, .slice A3 p.states.length c3, .slice A4 p.actions.length c4, .slice A5 p.tables.length c5, .slice A6 p.control.length c6, .slice A7 p.emit.length c7, .int .i64 act], .agg #[.int .u8 opb, .int .i64 litb.1, .int .u64 litb.2.1, .int .u64 litb.2.2, .string headb, .string nameb, .int .i64 hib, .int .i64 lob, .slice Ab argsb.length capb], .int .i64 0] W fun e w3 => e = .returned (.int .i64 sb) ∧ Below W.heap.size W w3) := hide hWb
 generalize hna : ca.length = na at *
 generalize hnb : cb.length = nb at *
 obtain ⟨C, hC⟩ : ∃ C, C = ca ++ cb ++ [(⟨20, z, 0, 0, 0, 0⟩ : Nd)] := ⟨_, rfl⟩
 rw [← hC]
 have hCl : C.length = na + nb + 1 := by rw [hC]; simp; omega
 have hCt : (C ++ [ndNot]).length = na + nb + 2 := by rw [List.length_append, hCl]; rfl
 simp only [hCt]
 replace hC := hide hC
 replace hCl := hide hCl
 clear hCt
 replace hna := hide hna
 replace hnb := hide hnb
 replace hCa : Hid (∀ W, Below we.heap.size we W → Calls Tryz.prog 50 #[.agg #[.slice A1 p.headers.length c1, .slice A2 p.metas.length c2, .slice A3 p.states.length c3, .slice A4 p.actions.length c4, .slice A5 p.tables.length c5, .slice A6 p.control.length c6, .slice A7 p.emit.length c7, .int .i64 act], .agg #[.int .u8 opa, .int .i64 lita.1, .int .u64 lita.2.1, .int .u64 lita.2.2, .string heada, .string namea, .int .i64 hia, .int .i64 loa, .slice Aa argsa.length capa], .int .i64 sa] W fun e w3 => ∃ A cap, e = .returned (.slice A na cap) ∧ NdS w3 W.heap.size (.slice A na cap) ca ∧ Below W.heap.size W w3) := hide hCa
 replace hCb : Hid (∀ W, Below we.heap.size we W → Calls Tryz.prog 50 #[.agg #[.slice A1 p.headers.length c1, .slice A2 p.metas.length c2, .slice A3 p.states.length c3, .slice A4 p.actions.length c4, .slice A5 p.tables.length c5, .slice A6 p.control.length c6, .slice A7 p.emit.length c7, .int .i64 act], .agg #[.int .u8 opb, .int .i64 litb.1, .int .u64 litb.2.1, .int .u64 litb.2.2, .string headb, .string nameb, .int .i64 hib, .int .i64 lob, .slice Ab argsb.length capb], .int .i64 sa] W fun e w3 => ∃ A cap, e = .returned (.slice A nb cap) ∧ NdS w3 W.heap.size (.slice A nb cap) cb ∧ Below W.heap.size W w3) := hide hCb
 have hgo := hide (fun W (hW : Below we.heap.size we W) => hw.trans (hW.mono hw.size))
 have kk := bcell' hw
 have wxa0 := (kk.1 _ (o) (by omega)).trans xa0
 have wxa1 := (kk.1 _ (o + 1) (by omega)).trans xa1
 have wxa2 := (kk.1 _ (o + 2) (by omega)).trans xa2
 have wxa3 := (kk.1 _ (o + 3) (by omega)).trans xa3
 have wxa4 := (kk.1 _ (o + 4) (by omega)).trans xa4
 have wxa5 := (kk.1 _ (o + 5) (by omega)).trans xa5
 have wxa6 := (kk.1 _ (o + 6) (by omega)).trans xa6
 have wxa7 := (kk.1 _ (o + 7) (by omega)).trans xa7
 have wxa8 := (kk.1 _ (o + 8) (by omega)).trans xa8
 have wxb0 := (kk.1 _ (o + 9) (by omega)).trans xb0
 have wxb1 := (kk.1 _ (o + 9 + 1) (by omega)).trans xb1
 have wxb2 := (kk.1 _ (o + 9 + 2) (by omega)).trans xb2
 have wxb3 := (kk.1 _ (o + 9 + 3) (by omega)).trans xb3
 have wxb4 := (kk.1 _ (o + 9 + 4) (by omega)).trans xb4
 have wxb5 := (kk.1 _ (o + 9 + 5) (by omega)).trans xb5
 have wxb6 := (kk.1 _ (o + 9 + 6) (by omega)).trans xb6
 have wxb7 := (kk.1 _ (o + 9 + 7) (by omega)).trans xb7
 have wxb8 := (kk.1 _ (o + 9 + 8) (by omega)).trans xb8
 clear kk
 clear xa0 xa1 xa2 xa3 xa4 xa5 xa6 xa7 xa8 xb0 xb1 xb2 xb3 xb4 xb5 xb6 xb7 xb8
 have z1 : (0 : Int) < 2 := by omega
 have hsz := hide hw.size
 replace hse := hide hse
 replace hsv := hide hsv
 clear hcv hce hbv hbe cv hs hw hba hbb
 go_enter Tryz.func50, Tryz.ntmps50
 go_upto_region 4 with (go_at_call 81; refine hX.out.mono ?_; rintro e w3 ⟨rfl, hb3⟩; have kb3 := bcell hb3)
 have kk := bcell' hb3
 have pv0 := (kk.1 _ (0) hl1).trans v0
 have pv1 := (kk.1 _ (1) hl1).trans v1
 have pv2 := (kk.1 _ (2) hl1).trans v2
 have pv3 := (kk.1 _ (3) hl1).trans v3
 have pv4 := (kk.1 _ (4) hl1).trans v4
 have pv5 := (kk.1 _ (5) hl1).trans v5
 have pv6 := (kk.1 _ (6) hl1).trans v6
 have pv7 := (kk.1 _ (7) hl1).trans v7
 have pe0 := (kk.1 _ (0) hl2).trans e0
 have pe1 := (kk.1 _ (1) hl2).trans e1
 have pe2 := (kk.1 _ (2) hl2).trans e2
 have pe3 := (kk.1 _ (3) hl2).trans e3
 have pe4 := (kk.1 _ (4) hl2).trans e4
 have pe5 := (kk.1 _ (5) hl2).trans e5
 have pe6 := (kk.1 _ (6) hl2).trans e6
 have pe7 := (kk.1 _ (7) hl2).trans e7
 have pe8 := (kk.1 _ (8) hl2).trans e8
 have pwxa0 := (kk.1 _ (o) hl3).trans wxa0
 have pwxa1 := (kk.1 _ (o + 1) hl3).trans wxa1
 have pwxa2 := (kk.1 _ (o + 2) hl3).trans wxa2
 have pwxa3 := (kk.1 _ (o + 3) hl3).trans wxa3
 have pwxa4 := (kk.1 _ (o + 4) hl3).trans wxa4
 have pwxa5 := (kk.1 _ (o + 5) hl3).trans wxa5
 have pwxa6 := (kk.1 _ (o + 6) hl3).trans wxa6
 have pwxa7 := (kk.1 _ (o + 7) hl3).trans wxa7
 have pwxa8 := (kk.1 _ (o + 8) hl3).trans wxa8
 have pwxb0 := (kk.1 _ (o + 9) hl3).trans wxb0
 have pwxb1 := (kk.1 _ (o + 9 + 1) hl3).trans wxb1
 have pwxb2 := (kk.1 _ (o + 9 + 2) hl3).trans wxb2
 have pwxb3 := (kk.1 _ (o + 9 + 3) hl3).trans wxb3
 have pwxb4 := (kk.1 _ (o + 9 + 4) hl3).trans wxb4
 have pwxb5 := (kk.1 _ (o + 9 + 5) hl3).trans wxb5
 have pwxb6 := (kk.1 _ (o + 9 + 6) hl3).trans wxb6
 have pwxb7 := (kk.1 _ (o + 9 + 7) hl3).trans wxb7
 have pwxb8 := (kk.1 _ (o + 9 + 8) hl3).trans wxb8
 have hp1 := Nat.lt_of_lt_of_le hl1 hb3.size
 have hp2 := Nat.lt_of_lt_of_le hl2 hb3.size
 have hp3 := Nat.lt_of_lt_of_le hl3 hb3.size
 clear kk v0 v1 v2 v3 v4 v5 v6 v7 e0 e1 e2 e3 e4 e5 e6 e7 e8 wxa0 wxa1 wxa2 wxa3 wxa4 wxa5 wxa6 wxa7 wxa8 wxb0 wxb1 wxb2 wxb3 wxb4 wxb5 wxb6 wxb7 wxb8
 clear kb3 hX
 go_cut [8] (fun np wx => ∃ gn, np = .pointer (some ⟨gn, 0, none⟩) ∧ Hid (NBox w3 wx gn ⟨20, z, 0, 0, 0, 0⟩))
 case first =>
  have hu : opU 23 = 20 := by decide
  have s1 := heldB (n := w3.heap.size) (wz := w3) (W := w3.drew) (Below.refl _ _).drew
  have s2 := heldB (n := w3.heap.size) (wz := w3) (W := (w3.alloc (.cells #[.int .u8 0, .int .i64 0, .int .i64 0, .int .i64 0, .int .u64 0, .int .u64 0] 79)).drew) ((Below.refl _ _).alloc (Nat.le_refl _) _).drew
  have hO1 := hide (ops_at1 w3)
  have hO2 := hide (ops_at2 w3)
  go_region_held3 (fun w' => Below w3.heap.size w3 w' ∧ ∀ b o, b < w3.heap.size → w'.cell? ⟨b, o, none⟩ = w3.cell? ⟨b, o, none⟩) (first | (with_reducible exact s1) | (with_reducible exact s2) | (with_reducible exact heldB hb5) | (with_reducible exact heldB (hb5.alloc hb5.size _)) | (with_reducible exact heldB (below_set6 hb5 (Nat.le_refl _) ⟨20, z, 0, 0, 0, 0⟩)))
   ((go_at_call 83; first | ((with_reducible refine hO1.out.mono ?_); rintro e w4 ⟨rfl, hb5, hk1, hk2⟩; have hk3 := hk1 23; have hk4 := hk2 23; rw [hu] at hk3; simp only [hu] at hk4; clear hk1 hk2) | ((with_reducible refine hO2.out.mono ?_); rintro e w4 ⟨rfl, hb5, ⟨hk1, hk2⟩, hb6, ⟨y0, y1, y2, y3, y4, y5⟩, ⟨f0, f1, f2, f3, f4, f5⟩⟩; have hk3 := hk1 23; have hk4 := hk2 23; rw [hu] at hk3; simp only [hu] at hk4; clear hk1 hk2)))
  all_goals go_wp2
  all_goals go_meet
  all_goals first
   | exact ⟨_, rfl, hide (NBox.set rfl hb5 hb6.out ⟨20, z, 0, 0, 0, 0⟩)⟩
   | exact ⟨_, rfl, hide (NBox.new hb5 ⟨20, z, 0, 0, 0, 0⟩)⟩
 case rest =>
  obtain ⟨gn, rfl, hN⟩ := hcut
  obtain ⟨w5, rfl⟩ : ∃ w5 : World, w5 = wc := ⟨_, rfl⟩
  obtain ⟨hb5, hgz, hgl, n0, n1, n2, n3, n4, n5⟩ := hN.out
  simp only at n0 n1 n2 n3 n4 n5
  clear hN
  have kk := bcell' hb5
  have qv0 := (kk.1 _ (0) hp1).trans pv0
  have qv1 := (kk.1 _ (1) hp1).trans pv1
  have qv2 := (kk.1 _ (2) hp1).trans pv2
  have qv3 := (kk.1 _ (3) hp1).trans pv3
  have qv4 := (kk.1 _ (4) hp1).trans pv4
  have qv5 := (kk.1 _ (5) hp1).trans pv5
  have qv6 := (kk.1 _ (6) hp1).trans pv6
  have qv7 := (kk.1 _ (7) hp1).trans pv7
  have qe0 := (kk.1 _ (0) hp2).trans pe0
  have qe1 := (kk.1 _ (1) hp2).trans pe1
  have qe2 := (kk.1 _ (2) hp2).trans pe2
  have qe3 := (kk.1 _ (3) hp2).trans pe3
  have qe4 := (kk.1 _ (4) hp2).trans pe4
  have qe5 := (kk.1 _ (5) hp2).trans pe5
  have qe6 := (kk.1 _ (6) hp2).trans pe6
  have qe7 := (kk.1 _ (7) hp2).trans pe7
  have qe8 := (kk.1 _ (8) hp2).trans pe8
  have qwxa0 := (kk.1 _ (o) hp3).trans pwxa0
  have qwxa1 := (kk.1 _ (o + 1) hp3).trans pwxa1
  have qwxa2 := (kk.1 _ (o + 2) hp3).trans pwxa2
  have qwxa3 := (kk.1 _ (o + 3) hp3).trans pwxa3
  have qwxa4 := (kk.1 _ (o + 4) hp3).trans pwxa4
  have qwxa5 := (kk.1 _ (o + 5) hp3).trans pwxa5
  have qwxa6 := (kk.1 _ (o + 6) hp3).trans pwxa6
  have qwxa7 := (kk.1 _ (o + 7) hp3).trans pwxa7
  have qwxa8 := (kk.1 _ (o + 8) hp3).trans pwxa8
  have qwxb0 := (kk.1 _ (o + 9) hp3).trans pwxb0
  have qwxb1 := (kk.1 _ (o + 9 + 1) hp3).trans pwxb1
  have qwxb2 := (kk.1 _ (o + 9 + 2) hp3).trans pwxb2
  have qwxb3 := (kk.1 _ (o + 9 + 3) hp3).trans pwxb3
  have qwxb4 := (kk.1 _ (o + 9 + 4) hp3).trans pwxb4
  have qwxb5 := (kk.1 _ (o + 9 + 5) hp3).trans pwxb5
  have qwxb6 := (kk.1 _ (o + 9 + 6) hp3).trans pwxb6
  have qwxb7 := (kk.1 _ (o + 9 + 7) hp3).trans pwxb7
  have qwxb8 := (kk.1 _ (o + 9 + 8) hp3).trans pwxb8
  have hq1 := Nat.lt_of_lt_of_le hp1 hb5.size
  have hq2 := Nat.lt_of_lt_of_le hp2 hb5.size
  have hq3 := Nat.lt_of_lt_of_le hp3 hb5.size
  clear kk pv0 pv1 pv2 pv3 pv4 pv5 pv6 pv7 pe0 pe1 pe2 pe3 pe4 pe5 pe6 pe7 pe8 pwxa0 pwxa1 pwxa2 pwxa3 pwxa4 pwxa5 pwxa6 pwxa7 pwxa8 pwxb0 pwxb1 pwxb2 pwxb3 pwxb4 pwxb5 pwxb6 pwxb7 pwxb8
  have hc5 := hb3.trans (hb5.mono hb3.size)
  obtain ⟨w6, hw6, hs6, hb6, hc6, -⟩ := box1 w5 #[.int .u8 opa, .int .i64 lita.1, .int .u64 lita.2.1, .int .u64 lita.2.2, .string heada, .string namea, .int .i64 hia, .int .i64 loa, .slice Aa argsa.length capa] 65
  obtain ⟨y0, y1, y2, y3, y4, y5, y6, y7, y8⟩ := row9 hc6
  clear hc6
  have hg6 : w5.heap.size < w6.heap.size := by omega
  replace hs6 := hide hs6
  have kk := bcell' hb6
  have m0 := (kk.1 _ 0 hgl).trans n0
  have m1 := (kk.1 _ 1 hgl).trans n1
  have m2 := (kk.1 _ 2 hgl).trans n2
  have m3 := (kk.1 _ 3 hgl).trans n3
  have m4 := (kk.1 _ 4 hgl).trans n4
  have m5 := (kk.1 _ 5 hgl).trans n5
  clear kk n0 n1 n2 n3 n4 n5
  have hm1 := Nat.lt_of_lt_of_le hgl hb6.size
  have kk := bcell' hb6
  have rv0 := (kk.1 _ (0) hq1).trans qv0
  have rv1 := (kk.1 _ (1) hq1).trans qv1
  have rv2 := (kk.1 _ (2) hq1).trans qv2
  have rv3 := (kk.1 _ (3) hq1).trans qv3
  have rv4 := (kk.1 _ (4) hq1).trans qv4
  have rv5 := (kk.1 _ (5) hq1).trans qv5
  have rv6 := (kk.1 _ (6) hq1).trans qv6
  have rv7 := (kk.1 _ (7) hq1).trans qv7
  have re0 := (kk.1 _ (0) hq2).trans qe0
  have re1 := (kk.1 _ (1) hq2).trans qe1
  have re2 := (kk.1 _ (2) hq2).trans qe2
  have re3 := (kk.1 _ (3) hq2).trans qe3
  have re4 := (kk.1 _ (4) hq2).trans qe4
  have re5 := (kk.1 _ (5) hq2).trans qe5
  have re6 := (kk.1 _ (6) hq2).trans qe6
  have re7 := (kk.1 _ (7) hq2).trans qe7
  have re8 := (kk.1 _ (8) hq2).trans qe8
  have rwxa0 := (kk.1 _ (o) hq3).trans qwxa0
  have rwxa1 := (kk.1 _ (o + 1) hq3).trans qwxa1
  have rwxa2 := (kk.1 _ (o + 2) hq3).trans qwxa2
  have rwxa3 := (kk.1 _ (o + 3) hq3).trans qwxa3
  have rwxa4 := (kk.1 _ (o + 4) hq3).trans qwxa4
  have rwxa5 := (kk.1 _ (o + 5) hq3).trans qwxa5
  have rwxa6 := (kk.1 _ (o + 6) hq3).trans qwxa6
  have rwxa7 := (kk.1 _ (o + 7) hq3).trans qwxa7
  have rwxa8 := (kk.1 _ (o + 8) hq3).trans qwxa8
  have rwxb0 := (kk.1 _ (o + 9) hq3).trans qwxb0
  have rwxb1 := (kk.1 _ (o + 9 + 1) hq3).trans qwxb1
  have rwxb2 := (kk.1 _ (o + 9 + 2) hq3).trans qwxb2
  have rwxb3 := (kk.1 _ (o + 9 + 3) hq3).trans qwxb3
  have rwxb4 := (kk.1 _ (o + 9 + 4) hq3).trans qwxb4
  have rwxb5 := (kk.1 _ (o + 9 + 5) hq3).trans qwxb5
  have rwxb6 := (kk.1 _ (o + 9 + 6) hq3).trans qwxb6
  have rwxb7 := (kk.1 _ (o + 9 + 7) hq3).trans qwxb7
  have rwxb8 := (kk.1 _ (o + 9 + 8) hq3).trans qwxb8
  have hr1 := Nat.lt_of_lt_of_le hq1 hb6.size
  have hr2 := Nat.lt_of_lt_of_le hq2 hb6.size
  have hr3 := Nat.lt_of_lt_of_le hq3 hb6.size
  clear kk
  have hc6 := hc5.trans (hb6.mono hc5.size)
  have hWb2 : ∀ d os, Hid (Calls Tryz.prog 81 #[.agg #[.slice A1 p.headers.length c1, .slice A2 p.metas.length c2, .slice A3 p.states.length c3, .slice A4 p.actions.length c4, .slice A5 p.tables.length c5, .slice A6 p.control.length c6, .slice A7 p.emit.length c7, .int .i64 act], .agg #[.int .u8 opb, .int .i64 litb.1, .int .u64 litb.2.1, .int .u64 litb.2.2, .string headb, .string nameb, .int .i64 hib, .int .i64 lob, .slice Ab argsb.length capb], .int .i64 0] (Go.Sort.grow (redrawn w6 d) os) _) := fun d os => hide (hWb.out _ (below_grow hc6 hc6.size d os))
  have hWa2 : ∀ d os, Hid (Calls Tryz.prog 81 #[.agg #[.slice A1 p.headers.length c1, .slice A2 p.metas.length c2, .slice A3 p.states.length c3, .slice A4 p.actions.length c4, .slice A5 p.tables.length c5, .slice A6 p.control.length c6, .slice A7 p.emit.length c7, .int .i64 act], .agg #[.int .u8 opa, .int .i64 lita.1, .int .u64 lita.2.1, .int .u64 lita.2.2, .string heada, .string namea, .int .i64 hia, .int .i64 loa, .slice Aa argsa.length capa], .int .i64 sb] (Go.Sort.grow (redrawn w6 d) os) _) := fun d os => hide (hWa.out _ (below_grow hc6 hc6.size d os))
  have hgw := gcell' (show Below w6.heap.size w6 w6 from Below.refl _ _) (Nat.le_refl _)
  go_upto_region 22 with fail
  clear hw6 qv0 qv1 qv2 qv3 qv4 qv5 qv6 qv7 qe0 qe1 qe2 qe3 qe4 qe5 qe6 qe7 qe8 qwxa0 qwxa1 qwxa2 qwxa3 qwxa4 qwxa5 qwxa6 qwxa7 qwxa8 qwxb0 qwxb1 qwxb2 qwxb3 qwxb4 qwxb5 qwxb6 qwxb7 qwxb8 hq1 hq2 hq3
  refine wp_region_quiet_below (by kernel_rfl) (by kernel_rfl) ?_
  repeat (any_goals (first | go_big_quiet_step ((go_at_call 81; first | (with_reducible exact Calls.regrown_of (hWb2 _ _).out) | (with_reducible exact Calls.regrown_of (hWa2 _ _).out))) | quiet_step ((go_at_call 81; first | (with_reducible exact Calls.regrown_of (hWb2 _ _).out) | (with_reducible exact Calls.regrown_of (hWa2 _ _).out)))))
  refine wpQuiet_nil ?_
  intro w7 hw7
  replace hw7 := below_of_regrown hw7
  clear hWa2 hWb2 hgw
  have kk := bcell' hw7
  have u0 := (kk.1 _ 0 hm1).trans m0
  have u1 := (kk.1 _ 1 hm1).trans m1
  have u2 := (kk.1 _ 2 hm1).trans m2
  have u3 := (kk.1 _ 3 hm1).trans m3
  have u4 := (kk.1 _ 4 hm1).trans m4
  have u5 := (kk.1 _ 5 hm1).trans m5
  have yy0 := (kk.1 _ 0 hg6).trans y0
  have yy1 := (kk.1 _ 1 hg6).trans y1
  have yy2 := (kk.1 _ 2 hg6).trans y2
  have yy3 := (kk.1 _ 3 hg6).trans y3
  have yy4 := (kk.1 _ 4 hg6).trans y4
  have yy5 := (kk.1 _ 5 hg6).trans y5
  have yy6 := (kk.1 _ 6 hg6).trans y6
  have yy7 := (kk.1 _ 7 hg6).trans y7
  have yy8 := (kk.1 _ 8 hg6).trans y8
  clear kk m0 m1 m2 m3 m4 m5 y0 y1 y2 y3 y4 y5 y6 y7 y8
  have hu1 := Nat.lt_of_lt_of_le hm1 hw7.size
  have hu2 := Nat.lt_of_lt_of_le hg6 hw7.size
  have kk := bcell' hw7
  have tv0 := (kk.1 _ (0) hr1).trans rv0
  have tv1 := (kk.1 _ (1) hr1).trans rv1
  have tv2 := (kk.1 _ (2) hr1).trans rv2
  have tv3 := (kk.1 _ (3) hr1).trans rv3
  have tv4 := (kk.1 _ (4) hr1).trans rv4
  have tv5 := (kk.1 _ (5) hr1).trans rv5
  have tv6 := (kk.1 _ (6) hr1).trans rv6
  have tv7 := (kk.1 _ (7) hr1).trans rv7
  have te0 := (kk.1 _ (0) hr2).trans re0
  have te1 := (kk.1 _ (1) hr2).trans re1
  have te2 := (kk.1 _ (2) hr2).trans re2
  have te3 := (kk.1 _ (3) hr2).trans re3
  have te4 := (kk.1 _ (4) hr2).trans re4
  have te5 := (kk.1 _ (5) hr2).trans re5
  have te6 := (kk.1 _ (6) hr2).trans re6
  have te7 := (kk.1 _ (7) hr2).trans re7
  have te8 := (kk.1 _ (8) hr2).trans re8
  have twxa0 := (kk.1 _ (o) hr3).trans rwxa0
  have twxa1 := (kk.1 _ (o + 1) hr3).trans rwxa1
  have twxa2 := (kk.1 _ (o + 2) hr3).trans rwxa2
  have twxa3 := (kk.1 _ (o + 3) hr3).trans rwxa3
  have twxa4 := (kk.1 _ (o + 4) hr3).trans rwxa4
  have twxa5 := (kk.1 _ (o + 5) hr3).trans rwxa5
  have twxa6 := (kk.1 _ (o + 6) hr3).trans rwxa6
  have twxa7 := (kk.1 _ (o + 7) hr3).trans rwxa7
  have twxa8 := (kk.1 _ (o + 8) hr3).trans rwxa8
  have twxb0 := (kk.1 _ (o + 9) hr3).trans rwxb0
  have twxb1 := (kk.1 _ (o + 9 + 1) hr3).trans rwxb1
  have twxb2 := (kk.1 _ (o + 9 + 2) hr3).trans rwxb2
  have twxb3 := (kk.1 _ (o + 9 + 3) hr3).trans rwxb3
  have twxb4 := (kk.1 _ (o + 9 + 4) hr3).trans rwxb4
  have twxb5 := (kk.1 _ (o + 9 + 5) hr3).trans rwxb5
  have twxb6 := (kk.1 _ (o + 9 + 6) hr3).trans rwxb6
  have twxb7 := (kk.1 _ (o + 9 + 7) hr3).trans rwxb7
  have twxb8 := (kk.1 _ (o + 9 + 8) hr3).trans rwxb8
  have ht1 := Nat.lt_of_lt_of_le hr1 hw7.size
  have ht2 := Nat.lt_of_lt_of_le hr2 hw7.size
  have ht3 := Nat.lt_of_lt_of_le hr3 hw7.size
  clear kk rv0 rv1 rv2 rv3 rv4 rv5 rv6 rv7 re0 re1 re2 re3 re4 re5 re6 re7 re8 rwxa0 rwxa1 rwxa2 rwxa3 rwxa4 rwxa5 rwxa6 rwxa7 rwxa8 rwxb0 rwxb1 rwxb2 rwxb3 rwxb4 rwxb5 rwxb6 rwxb7 rwxb8
  have hc7 := hc6.trans (hw7.mono hc6.size)
  have e7 := hsz.out
  have hok : okN ⟨20, z, 0, 0, 0, 0⟩ := ⟨⟨by show (0 : Int) ≤ 20; omega, by show (20 : Int) < _; omega⟩, ⟨by show (0 : Int) ≤ 0; omega, by show (0 : Int) < _; omega⟩, ⟨by show (0 : Int) ≤ 0; omega, by show (0 : Int) < _; omega⟩⟩
  replace hC := hC.out
  have hA1 : Calls Tryz.prog 50 #[.agg #[.slice A1 p.headers.length c1, .slice A2 p.metas.length c2, .slice A3 p.states.length c3, .slice A4 p.actions.length c4, .slice A5 p.tables.length c5, .slice A6 p.control.length c6, .slice A7 p.emit.length c7, .int .i64 act], .agg #[.int .u8 opa, .int .i64 lita.1, .int .u64 lita.2.1, .int .u64 lita.2.2, .string heada, .string namea, .int .i64 hia, .int .i64 loa, .slice Aa argsa.length capa], .int .i64 sa] w7.drew fun e w8 => ∃ A c, e = .returned (.slice A na c) ∧ Hid (NdS w8 w.heap.size (.slice A na c) ca) ∧ Below w7.heap.size w7 w8 := (hCa.out w7.drew (hc7.drew)).mono fun e w8 ⟨A, c, h1, h2, h3⟩ => ⟨A, c, h1, hide (h2.mono (Nat.le_trans e7 hc7.size)), (Below.refl _ _).drew.trans h3⟩
  have hB1 : ∀ W, Below w7.heap.size w7 W → Calls Tryz.prog 50 #[.agg #[.slice A1 p.headers.length c1, .slice A2 p.metas.length c2, .slice A3 p.states.length c3, .slice A4 p.actions.length c4, .slice A5 p.tables.length c5, .slice A6 p.control.length c6, .slice A7 p.emit.length c7, .int .i64 act], .agg #[.int .u8 opb, .int .i64 litb.1, .int .u64 litb.2.1, .int .u64 litb.2.2, .string headb, .string nameb, .int .i64 hib, .int .i64 lob, .slice Ab argsb.length capb], .int .i64 sa] W fun e w9 => ∃ A c, e = .returned (.slice A nb c) ∧ Hid (NdS w9 w.heap.size (.slice A nb c) cb) ∧ Hid (Below W.heap.size W w9) ∧ Below w7.heap.size w7 w9 := fun W hW => (hCb.out W (hc7.trans (hW.mono hc7.size))).mono fun e w9 ⟨A, c, h1, h2, h3⟩ => ⟨A, c, h1, hide (h2.mono (Nat.le_trans e7 (Nat.le_trans hc7.size hW.size))), hide h3, hW.trans (h3.mono hW.size)⟩
  have hJ : ∀ (A1 A2 : Option Addr) (k1 k2 : Nat) (w8 w9 : World), NdS w8 w.heap.size (.slice A1 na k1) ca → Below w8.heap.size w8 w9 → NdS w9 w.heap.size (.slice A2 nb k2) cb → Below w7.heap.size w7 w9 → Calls Tryz.prog 84 #[.agg #[.int .u8 20, .int .i64 z, .int .i64 0, .int .i64 0, .int .u64 0, .int .u64 0], .slice (some ⟨w9.heap.size, 0, none⟩) 2 2] (w9.alloc (.cells #[.slice A1 na k1, .slice A2 nb k2] 35)) fun e w10 => ∃ A c, e = .returned (.slice A (na + nb + 1) c) ∧ Hid (NdS w10 w.heap.size (.slice A (na + nb + 1) c) C) ∧ Below w7.heap.size w7 w10 := by
   intro A1 A2 k1 k2 w8 w9 h1 h2 h3 h4
   have en1 := hna.out
   have en2 := hnb.out
   subst en1 en2
   have hfl : flen [ca, cb] = ca.length + cb.length := by unfold flen; simp
   refine (joined_any ⟨20, z, 0, 0, 0, 0⟩ hok [ca, cb] (some ⟨w9.heap.size, 0, none⟩) 2 _ (two_parts h1 h2 h3) (by intro x hx; simp at hx; rcases hx with rfl | rfl <;> assumption) (by rw [hfl]; omega) (by rw [hfl]; omega)).mono ?_
   rintro e w10 ⟨A, c, g1, g2, g3⟩
   rw [hfl] at g1 g2
   have hf2 : [ca, cb].flatten ++ [(⟨20, z, 0, 0, 0, 0⟩ : Nd)] = C := by rw [hC]; simp
   rw [hf2] at g2
   have hs9 : w9.heap.size ≤ (w9.alloc (.cells #[.slice A1 ca.length k1, .slice A2 cb.length k2] 35)).heap.size := by simp
   exact ⟨A, c, g1, hide (g2.mono (Nat.le_trans e7 (Nat.le_trans hc7.size (Nat.le_trans h4.size hs9)))), (h4.alloc h4.size _).trans (g3.mono (Nat.le_trans h4.size hs9))⟩
  have s1 := heldB (n := w7.heap.size) (wz := w7) (W := w7.drew) (Below.refl _ _).drew
  have hg7 := hide (fun (W : World) (hW : Below w7.heap.size w7 W) => (⟨hgo.out W (hc7.trans (hW.mono hc7.size)), Nat.le_trans e7 (Nat.le_trans hc7.size hW.size)⟩ : Below w.heap.size w W ∧ w.heap.size ≤ W.heap.size))
  replace hA1 := hide hA1
  replace hB1 := hide hB1
  replace hJ := hide hJ
  clear hCa hCb hWa hWb hgo hc5 hc6 hb3 hb5 hb6 hw7 hC hok e7
  go_upto_region 23 with fail
  go_cut [11] (fun v wx => ∃ Ac cc, v = .slice Ac (na + nb + 1) cc ∧ Hid (NdS wx w.heap.size (.slice Ac (na + nb + 1) cc) C) ∧ Hid (Below w7.heap.size w7 wx))
  case first =>
   go_region_held3 (fun w' => Below w7.heap.size w7 w' ∧ ∀ b o, b < w7.heap.size → w'.cell? ⟨b, o, none⟩ = w7.cell? ⟨b, o, none⟩) (first | (with_reducible exact s1) | (with_reducible exact heldB hb10) | (with_reducible exact heldB (hb9.alloc hb9.size _)) | (with_reducible exact heldB hb9) | (with_reducible exact heldB hb8))
    (first | (go_at_call 50; (with_reducible refine hA1.out.mono ?_); rintro e w8 ⟨Aa', ka', rfl, hNa, hb8⟩) | (go_at_call 50; (with_reducible refine (hB1.out _ hb8).mono ?_); rintro e w9 ⟨Ab', kb', rfl, hNb, hb89, hb9⟩) | (go_at_call 84; (with_reducible refine (hJ.out _ _ _ _ _ _ hNa.out hb89.out hNb.out hb9).mono ?_); rintro e w10 ⟨Ac', kc', rfl, hNc, hb10⟩))
   all_goals go_wp2
   all_goals go_meet
   all_goals exact ⟨_, _, rfl, hNc, hide hb10⟩
  case rest =>
   obtain ⟨Ac, cc, rfl, hNc, hbc⟩ := hcut
   obtain ⟨w11, rfl⟩ : ∃ w11 : World, w11 = wc := ⟨_, rfl⟩
   have te0' := (hbc.out.cell (p := ⟨wv.heap.size, 0, none⟩) ht2).trans te0
   have ht2' := Nat.lt_of_lt_of_le ht2 hbc.out.size
   obtain ⟨X, y, ex, sx⟩ := hNc.out.sl
   injection ex with ex1 ex2 ex3
   subst ex1 ex3
   have hT := turned_any C Ac cc w11 sx (by have := hCl.out; omega) (by have := hCl.out; omega)
   rw [hCl.out] at hT
   have hg11 := hg7.out w11 hbc.out
   replace hT : Hid (Calls Tryz.prog 85 #[.slice Ac (na + nb + 1) cc] w11 fun e w12 => ∃ A' c', e = .returned (.slice A' (na + nb + 2) c') ∧ NdS w12 w11.heap.size (.slice A' (na + nb + 2) c') (C ++ [ndNot]) ∧ Below w11.heap.size w11 w12) := hide hT
   clear sx ex2 hg7 hJ hA1 hB1 tv0 tv1 tv2 tv3 tv4 tv5 tv6 tv7 te0 te1 te2 te3 te4 te5 te6 te7 te8 twxa0 twxa1 twxa2 twxa3 twxa4 twxa5 twxa6 twxa7 twxa8 twxb0 twxb1 twxb2 twxb3 twxb4 twxb5 twxb6 twxb7 twxb8 yy0 yy1 yy2 yy3 yy4 yy5 yy6 yy7 yy8 u0 u1 u2 u3 u4 u5
   go_wp2_with (go_at_call 85; refine hT.out.mono ?_; rintro e w12 ⟨At, kt, rfl, hNt, hbt⟩)
   go_ret
   exact ⟨_, _, rfl, hNt.mono hg11.2, hg11.1.trans (hbt.mono hg11.2)⟩
end Go.Proofs.YtmfpbahifhndjaaGreat

import Derived.Test.YtbbdhknagofghaaGreatWhl48
import Derived.Test.YtbbdhknagofghaaGreatWhl31
set_option linter.all false
/-! Openers: a slice that was read is no longer than its capacity. -/
namespace Go.Proofs.YtbbdhknagofghaaGreat
open Go.ChangeShapes Go.WideShapes Go.ChangeAt Go.RowKit Go.Deep
set_option maxRecDepth 20000 in
theorem key_cap {H : Type} {enc : TypeId × Value → H} {w : World} {fuel : Nat} {cs : List Value} {x : DataW H × List MemPlace} (h : DataW.trod enc Tryz.prog w 0 (fun _ => true) true fuel 58 cs = some x) {A : Option Addr} {n c : Nat} (h1 : cs[1]? = some (.slice A n c)) : n ≤ c := by
 obtain ⟨xs, k, _, rfl, hl, hlen, hg⟩ := DataW.trod_struct Tryz.underlying58 h
 rw [ce_Table] at hl
 match xs, hlen with
 | [y0, y1, y2, y3], _ =>
  match cs, hl with
  | [a0, a1, a2, a3, a4], _ =>
   have ha : a1 = .slice A n c := by simpa using h1
   subst ha
   rcases open_slice (t := 53) (e := 52) Tryz.underlying53 (by simpa [ce_sKey] using hg 1 _ rfl) with ⟨e, _⟩ | ⟨a, len, cap, m, n', D, Pl, e, _, hle, _⟩
   ·injection e with e; injection e with _ e2 e3; omega
   ·injection e with e; injection e with _ e2 e3; omega
theorem add2_cell (b o i j : Nat) : ((⟨b, o, none⟩ : Addr).add i).add j = ⟨b, o + i + j, none⟩ := by unfold Addr.add; split <;> split <;> simp_all
set_option maxRecDepth 20000 in
theorem kcap_trod {H : Type} {enc : TypeId × Value → H} {w : World} {fuel : Nat} {x : DataW H × List MemPlace} (A1 A2 A3 A4 A5 A6 A7 : Option Addr) (p : Pg) (c1 c2 c3 c4 c5 c6 c7 : Nat) (h : DataW.trod enc Tryz.prog w 0 (fun _ => true) true fuel 30 (#[.slice A1 p.headers.length c1, .slice A2 p.metas.length c2, .slice A3 p.states.length c3, .slice A4 p.actions.length c4, .slice A5 p.tables.length c5, .slice A6 p.control.length c6, .slice A7 p.emit.length c7] : Array Value).toList = some x) : KCap w A5 p := by
 intro i hi g o A c hA hcell
 obtain ⟨xs, n, _, rfl, hl, hlen, hg⟩ := DataW.trod_struct Tryz.underlying30 h
 match xs, hlen with
 | [y0, y1, y2, y3, y4, y5, y6], _ =>
  rcases open_slice (t := 26) (e := 58) Tryz.underlying26 (by simpa [ce_sTable] using hg 4 _ rfl) with ⟨e, _⟩ | ⟨a, len, cap, m, n', D, Pl, e, _, hle, _, hmm, _, hx⟩
  ·injection e with e; injection e with e1; rw [hA] at e1; cases e1
  ·injection e with e; injection e with e1 e2 e3
   rw [hA] at e1
   injection e1 with e1
   subst e1
   simp only [if_true] at hmm
   obtain ⟨cs', hc, htr⟩ := hx i (by omega)
   rw [ce_Table] at hc
   obtain ⟨_, h1, h2⟩ := World.cells?_some hc
   refine key_cap htr (A := A) ?_
   have h3 := h2 1 (by omega)
   rw [add2_cell, hcell] at h3
   exact h3.symm
end Go.Proofs.YtbbdhknagofghaaGreat

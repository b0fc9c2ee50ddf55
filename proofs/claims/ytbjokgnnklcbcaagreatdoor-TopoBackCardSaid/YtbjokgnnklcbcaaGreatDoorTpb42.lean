import Derived.Test.YtbjokgnnklcbcaaGreatDoorTpb35
import Derived.Test.YtbjokgnnklcbcaaGreatDoorTpb18
import Derived.Test.YtbjokgnnklcbcaaGreatDoorTpb01
import Derived.Test.YtbjokgnnklcbcaaGreatDoorCards
import Derived.Test.YtbjokgnnklcbcaaGreatDoorTie
import Derived.OpenShut
import Derived.Carry
import Derived.Lib.LaidTab
import Derived.Stop.LaidErr
import Derived.Test.YtbjokgnnklcbcaaGreatDoorTpb03
import Derived.ProofKit
import Derived.Deep.Slices
set_option linter.all false
/-
TopoReads (layer 13): the network of any text, or its first fault, is the document's; where the listed package variables hold what the program's text lays (the card ties them to it).
-/
namespace Go.Proofs.YtbjokgnnklcbcaaGreatDoor
open Go.ChangeShapes Go.WideShapes Go.ChangeAt Go.RowKit
open Go.ChangeMaps (open_string shut_string)
theorem Tryz.own : ownKnob Tryz.prog.godebug = none := by kernel_rfl
theorem esStar : "*" ++ "errors.errorString" = "*errors.errorString" := by decide
theorem es_row (u : TypeId) (h : Tryz.prog.typeName? 3 u = some "*errors.errorString") : u = 215 :=
 typeName_ptr_named (nm := "errors.errorString") (by rw [esStar]; kernel_rfl) (by kernel_rfl) (by decide) u (by rw [esStar]; exact h)
theorem g1_named : Tryz.prog.globalNamed "strconv.ErrSyntax" = some 2 := by kernel_rfl
theorem g2_named : Tryz.prog.globalNamed "strconv.ErrRange" = some 3 := by kernel_rfl
/-- The variables that the program's texts meet, off what the row lists and the world's shape. -/
theorem varS_of {W : World} (hL : laidMetH Tryz.prog Rows.topoReadsRow.laid W) (hsh : W.ShapedOpen Tryz.prog) : VarS W := by
 have hL' : laidMet Tryz.prog Rows.topoReadsRow.laid W := hL
 have h4 := hL'.tail.tail.tail.tail
 obtain ⟨a2, t2, hv2, _⟩ := laid_sentinel (g := 3) h4 g2_named (by kernel_rfl) Tryz.underlying82 es_row Tryz.underlying215 Tryz.underlying217 rfl rfl Tryz.underlying9 (by kernel_rfl) (by kernel_rfl)
 obtain ⟨a1, t1, hv1, _⟩ := laid_sentinel (g := 2) h4.tail g1_named (by kernel_rfl) Tryz.underlying82 es_row Tryz.underlying215 Tryz.underlying217 rfl rfl Tryz.underlying9 (by kernel_rfl) (by kernel_rfl)
 refine ⟨Go.Proofs.cell_of_shapedOpen_int (zero := #[.int .i64 0]) (t := 3) hsh (of_decide_eq_true (by kernel_rfl)) (by kernel_rfl) rfl (by kernel_rfl) (by kernel_rfl) Tryz.underlying3, ⟨_, World.var?_cell g1_named hv1 0, .inr ⟨_, _, rfl⟩⟩, ⟨_, World.var?_cell g2_named hv2 0, .inr ⟨_, _, rfl⟩⟩⟩
/-- What the library's Sort answers: the shelf's. -/
theorem sortC_holds : SortC :=
 ⟨fun blk cap zs w hH hb hz => Tryz.slices_Sort_int blk 0 cap zs w hH hb hz, fun p cap w => Tryz.slices_Sort_int_none p cap w⟩
end Go.Proofs.YtbjokgnnklcbcaaGreatDoor
/-! Arguments opened to what the walks speak of: a type that reads as R. -/
namespace Go.Proofs.YtbjokgnnklcbcaaGreatDoor
open Go.ChangeShapes Go.WideShapes Go.ChangeAt Go.RowKit Go.Deep
/-- Whatever reads as data of type t, reads as R. -/
def Rd {α : Type} (t : TypeId) (R : CR α) : Prop :=
 ∀ (H : Type) (enc : TypeId × Value → H) (w : World) (fuel : Nat) (cs : List Value) (x : DataW H × List MemPlace), DataW.trod enc Tryz.prog w 0 (fun _ => true) true fuel t cs = some x → ∃ a, R w w.heap.size cs a
theorem rd_int {t : TypeId} (ht : Tryz.prog.underlying t = some (.int .i64)) : Rd t rInt := fun _ _ _ _ _ _ h => by
 obtain ⟨n, rfl, _, _⟩ := DataW.trod_int ht h
 exact ⟨n, rfl⟩
theorem rd_str {t : TypeId} (ht : Tryz.prog.underlying t = some .string) : Rd t rStr := fun _ _ _ _ _ _ h => by
 obtain ⟨s, rfl, _, hs⟩ := DataW.trod_string ht h
 exact ⟨s, rfl, hs⟩
theorem addr_spot {w : World} {a : Addr} {v : Value} (h : w.cell? a = some v) : ∃ b o, a = ⟨b, o, none⟩ := by
 obtain ⟨b, o, spot⟩ := a
 cases spot with
 | none => exact ⟨b, o, rfl⟩
 | some s => simp [World.cell?] at h; split at h <;> cases h
theorem exists_list {α : Type} {p : Nat → α → Prop} : ∀ len : Nat, (∀ i, i < len → ∃ a, p i a) → ∃ xs : List α, xs.length = len ∧ ∀ i x, xs[i]? = some x → p i x
 | 0, _ => ⟨[], rfl, fun i x h => by simp at h⟩
 | len + 1, h => by
  obtain ⟨xs, h1, h2⟩ := exists_list len (fun i hi => h i (by omega))
  obtain ⟨a, ha⟩ := h len (by omega)
  refine ⟨xs ++ [a], by simp [h1], fun i x hx => ?_⟩
  by_cases hi : i < len
  ·rw [List.getElem?_append_left (by omega)] at hx
   exact h2 i x hx
  ·have hil : i = len := by
    have := (List.getElem?_eq_some_iff.1 hx).1
    simp [h1] at this; omega
   subst hil
   rw [List.getElem?_append_right (by omega), h1] at hx
   simp at hx
   subst hx
   exact ha
theorem rd_slice {α : Type} {R : CR α} {t e : TypeId} {k : Nat} (ht : Tryz.prog.underlying t = some (.slice e)) (hk : Tryz.prog.cellsOf e = k) (hk0 : 0 < k) (he : Rd e R) : Rd t (rSl k R) := fun H enc w fuel cs x h => by
 rcases open_slice ht h with ⟨rfl, _⟩ | ⟨a, len, cap, m, n, D, Pl, rfl, _, hl, hm, hmm, _, hx⟩
 ·exact ⟨[], none, 0, rfl, Sl.nil_⟩
 ·simp only [if_true] at hmm
  subst hmm
  obtain ⟨xs, hlen, hxs⟩ := exists_list (p := fun i y => ∃ ecs : List Value, ecs.length = k ∧ (∀ j, j < k → w.cell? ((a.add (i * k)).add j) = ecs[j]?) ∧ R w w.heap.size ecs y) len (fun i hi => by
   obtain ⟨cs', hc, htr⟩ := hx i (by omega)
   rw [hk] at hc
   obtain ⟨_, h1, h2⟩ := World.cells?_some hc
   obtain ⟨y, hy⟩ := he H enc w n cs' _ htr
   exact ⟨y, cs', h1, h2, hy⟩)
  refine ⟨xs, some a, m, by rw [hlen], by omega, fun i y hy => ?_⟩
  have hi : i < len := by rw [← hlen]; exact (List.getElem?_eq_some_iff.1 hy).1
  obtain ⟨ecs0, g1, g2, _⟩ := hxs 0 (xs[0]'(by omega)) (List.getElem?_eq_getElem (by omega))
  have hz : w.cell? a = some (ecs0[0]'(by omega)) := by
   have := g2 0 hk0
   rw [List.getElem?_eq_getElem (by omega)] at this
   simpa [Addr.add] using this
  obtain ⟨b, o, rfl⟩ := addr_spot hz
  have hb := World.block_lt_of_cell? w _ hz
  obtain ⟨ecs, h1, h2, h3⟩ := hxs i y hy
  have hadd : ∀ j, ((⟨b, o, none⟩ : Addr).add (i * k)).add j = ⟨b, o + i * k + j, none⟩ := fun j => by unfold Addr.add; split <;> split <;> simp_all
  refine ⟨b, o, ecs, rfl, hb, h1, fun j u hu => ?_, h3⟩
  have hj : j < k := by have := (List.getElem?_eq_some_iff.1 hu).1; omega
  rw [← hadd j, h2 j hj, hu]
/-- A row's last step where nothing that lay has turned; no 'again'. -/
theorem post_below {H : Type} {enc : TypeId × Value → H} {P : Program} {f : Func} {s : ChangeSpec} {apart fresh handsOn : Bool} {W W' : World} {args : Array Value} {v : Value} {ds gs : List (DataW H)} {before pa pv : List MemPlace}
  (hW : DataW.Whole enc P f.params.toList s.vars apart W args.toList ds gs before)
  (hres : ∀ (b : Nat) (sp : Nat → Bool) (hd : Bool), DataW.TrodAll enc P W' b sp hd f.resultTypes.toList (v.resultList f.resultTypes.size) (s.fn H (ds ++ gs)).results [])
  (hargs : DataW.TrodAll enc P W' 0 (fun b => decide (b < W.heap.size)) true f.params.toList args.toList (s.fn H (ds ++ gs)).args pa)
  (hvars : DataW.TrodVars enc P W' (fun b => decide (b < W.heap.size)) s.vars (s.fn H (ds ++ gs)).vars pv)
  (hps : before = pa ++ pv) (hb : Below W.heap.size W W') : s.post enc P f apart fresh handsOn false W args v W' := by
 have hlt : ∀ p ∈ before, p.block < W.heap.size := fun p hp => hW.lt p hp
 refine ⟨ds, gs, before, [], pa, pv, hW, hres _ _ _, hargs, hvars, World.keptBut_mono (fun p hp => ⟨hp, ?_⟩) (hb.frame (· ∈ before)), fun h => by cases h⟩
 rw [hps, List.mem_append] at hp
 exact Or.inr hp
end Go.Proofs.YtbjokgnnklcbcaaGreatDoor

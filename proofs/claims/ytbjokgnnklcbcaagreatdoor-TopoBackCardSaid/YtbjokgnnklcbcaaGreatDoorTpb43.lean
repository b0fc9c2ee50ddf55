import Derived.Test.YtbjokgnnklcbcaaGreatDoorTpb41
import Derived.Test.YtbjokgnnklcbcaaGreatDoorTpb42
import Derived.HandedShaped
set_option linter.all false
/-! Layer 13: a network, opened. -/
namespace Go.Proofs.YtbjokgnnklcbcaaGreatDoor
open Go.ChangeShapes Go.WideShapes Go.ChangeAt Go.RowKit
set_option maxRecDepth 100000
theorem ce3 : Tryz.prog.cellsOf 3 = 1 := by kernel_rfl
theorem ce9 : Tryz.prog.cellsOf 9 = 1 := by kernel_rfl
theorem ce38 : Tryz.prog.cellsOf 41 = 2 := by kernel_rfl
theorem ce40 : Tryz.prog.cellsOf 72 = 4 := by kernel_rfl
theorem ce26 : Tryz.prog.cellsOf 27 = 3 := by kernel_rfl
theorem ce27 : Tryz.prog.cellsOf 39 = 1 := by kernel_rfl
theorem ce22 : Tryz.prog.cellsOf 23 = 1 := by kernel_rfl
theorem ce23 : Tryz.prog.cellsOf 24 = 1 := by kernel_rfl
theorem ce24 : Tryz.prog.cellsOf 25 = 1 := by kernel_rfl
theorem rd3 : Rd 3 rInt := rd_int Tryz.underlying3
theorem rd9 : Rd 9 rStr := rd_str Tryz.underlying9
theorem rd27 : Rd 39 (rSl 1 rInt) := rd_slice Tryz.underlying39 ce3 (by decide) rd3
theorem rd22 : Rd 23 (rSl 1 rStr) := rd_slice Tryz.underlying23 ce9 (by decide) rd9
theorem rd23 : Rd 24 (rSl 1 (rSl 1 rInt)) := rd_slice Tryz.underlying24 ce27 (by decide) rd27
theorem rd38 : Rd 41 rEnd := fun H enc w fuel cs x h => by
 obtain ⟨y0, y1, n, _, hl, h0, h1⟩ := trod_struct2 Tryz.underlying41 h
 rw [ce38] at hl
 match cs, hl with
 | [a, b], _ =>
  obtain ⟨s, e0⟩ := rd3 H enc w n [a] y0 (by simpa [ce3] using h0)
  obtain ⟨p, e1⟩ := rd3 H enc w n [b] y1 (by simpa [ce3] using h1)
  cases e0
  cases e1
  exact ⟨(s, p), rfl⟩
theorem rd40 : Rd 72 rLink := fun H enc w fuel cs x h => by
 obtain ⟨y0, y1, n, _, hl, h0, h1⟩ := trod_struct2 Tryz.underlying72 h
 rw [ce40] at hl
 match cs, hl with
 | [a, b, c, d], _ =>
  obtain ⟨s, e0⟩ := rd38 H enc w n [a, b] y0 (by simpa [ce38] using h0)
  obtain ⟨p, e1⟩ := rd38 H enc w n [c, d] y1 (by simpa [ce38] using h1)
  unfold rEnd at e0 e1
  injection e0 with e0 e0'
  injection e0' with e0' _
  injection e1 with e1 e1'
  injection e1' with e1' _
  subst e0 e0' e1 e1'
  exact ⟨(s, p), rfl⟩
theorem rd24 : Rd 25 (rSl 4 rLink) := rd_slice Tryz.underlying25 ce40 (by decide) rd40
theorem open_net {H : Type} {enc : TypeId × Value → H} {w : World} {b : Nat} {v : Value} {d : DataW H} {p : List MemPlace} (hv : Value.okWide Tryz.prog w .any b 27 v) (h : DataW.Trod enc Tryz.prog w 0 (fun _ => true) true 27 v d p) :
  ∃ n A1 A2 A3 c1 c2 c3, v = netV n A1 A2 A3 c1 c2 c3 ∧ NetS w w.heap.size A1 A2 A3 n := by
 obtain ⟨cs, rfl, hsz⟩ := okWide_struct Tryz.underlying27 hv
 rw [ce26] at hsz
 obtain ⟨fuel, hf⟩ := h
 obtain ⟨xs, n, _, _, _, hlen, hg⟩ := DataW.trod_struct Tryz.underlying27 hf
 obtain ⟨l⟩ := cs
 match l, hsz with
 | [a, b, c], _ =>
  match xs, hlen with
  | [y0, y1, y2], _ =>
   obtain ⟨sw, A1, c1, e1, s1⟩ := rd22 H enc w n [a] y0 (by simpa [Value.cells, ce22] using hg 0 _ rfl)
   obtain ⟨ps, A2, c2, e2, s2⟩ := rd23 H enc w n [b] y1 (by simpa [Value.cells, ce23] using hg 1 _ rfl)
   obtain ⟨ls, A3, c3, e3, s3⟩ := rd24 H enc w n [c] y2 (by simpa [Value.cells, ce24] using hg 2 _ rfl)
   cases e1
   cases e2
   cases e3
   exact ⟨⟨sw, ps, ls⟩, A1, A2, A3, c1, c2, c3, rfl, s1, s2, s3⟩
theorem Tryz.laidOut : laidOutB Tryz.prog = true := by kernel_rfl
theorem rr26 : Tryz.prog.readableRec 27 = true := by kernel_rfl
theorem ts26 : 27 < Tryz.prog.types.size := of_decide_eq_true (by kernel_rfl)
theorem pow_data : (Rows.laid_internal_strconv_uint64pow10 : DataW Unit) = Go.Lib.tabData .u64 Go.Lib.pow10Tab := by kernel_rfl
/-- What Itoa's table holds, off what the row lists. -/
theorem powS_of {W : World} (hL : laidMetH Tryz.prog Rows.topoReadsRow.laid W) : PowS W := by
 have hL' : laidMet Tryz.prog Rows.topoReadsRow.laid W := hL
 have h2 := hL'.tail.tail
 refine Go.Lib.tabIs_of_head (g := 1) (t := 159) (e := 60) (n := 20) (by kernel_rfl) (by kernel_rfl) Tryz.underlying159 Tryz.underlying60 (by kernel_rfl) (by kernel_rfl) (rest := (Rows.topoReadsRow.laid.drop 3)) ?_
 rw [← pow_data]
 exact h2
end Go.Proofs.YtbjokgnnklcbcaaGreatDoor

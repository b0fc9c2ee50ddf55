import Derived.Test.YtjijggighppjbaaDnKn
import Derived.Test.YtjijggighppjbaaRd
import Derived.HandedShaped
import Derived.Carry
/-
DownNets (layer 48): any network with any links down, or that it is refused, and all sets of at most so many links, are the document's; it may be; with none down it is as it was; no condition.
-/
namespace Go.Proofs.Ytjijggighppjbaa
open Go.ChangeShapes Go.WideShapes Go.ChangeAt Go.RowKit
theorem ce3 : Try.prog.cellsOf 3 = 1 := by kernel_rfl
theorem ce9 : Try.prog.cellsOf 9 = 1 := by kernel_rfl
theorem ce38 : Try.prog.cellsOf 38 = 2 := by kernel_rfl
theorem ce40 : Try.prog.cellsOf 40 = 4 := by kernel_rfl
theorem ce26 : Try.prog.cellsOf 26 = 3 := by kernel_rfl
theorem ce27 : Try.prog.cellsOf 27 = 1 := by kernel_rfl
theorem ce22 : Try.prog.cellsOf 22 = 1 := by kernel_rfl
theorem ce23 : Try.prog.cellsOf 23 = 1 := by kernel_rfl
theorem ce24 : Try.prog.cellsOf 24 = 1 := by kernel_rfl
theorem rd3 : Rd 3 rInt := rd_int Try.underlying3
theorem rd9 : Rd 9 rStr := rd_str Try.underlying9
theorem rd27 : Rd 27 (rSl 1 rInt) := rd_slice Try.underlying27 ce3 (by decide) rd3
theorem rd22 : Rd 22 (rSl 1 rStr) := rd_slice Try.underlying22 ce9 (by decide) rd9
theorem rd23 : Rd 23 (rSl 1 (rSl 1 rInt)) := rd_slice Try.underlying23 ce27 (by decide) rd27
theorem rd38 : Rd 38 rEnd := fun H enc w fuel cs x h => by
  obtain ⟨y0, y1, n, _, hl, h0, h1⟩ := trod_struct2 Try.underlying38 h
  rw [ce38] at hl
  match cs, hl with
  | [a, b], _ =>
    obtain ⟨s, e0⟩ := rd3 H enc w n [a] y0 (by simpa [ce3] using h0)
    obtain ⟨p, e1⟩ := rd3 H enc w n [b] y1 (by simpa [ce3] using h1)
    cases e0
    cases e1
    exact ⟨(s, p), rfl⟩
theorem rd40 : Rd 40 rLink := fun H enc w fuel cs x h => by
  obtain ⟨y0, y1, n, _, hl, h0, h1⟩ := trod_struct2 Try.underlying40 h
  rw [ce40] at hl
  match cs, hl with
  | [a, b, c, d], _ =>
    obtain ⟨s, e0⟩ := rd38 H enc w n [a, b] y0 (by simpa [ce38] using h0)
    obtain ⟨p, e1⟩ := rd38 H enc w n [c, d] y1 (by simpa [ce38] using h1)
    unfold rEnd at e0 e1
    injection e0 with e0 e0'
    injection e0' with e0' _
    injection e1 with e1 e1'
    injection e1' with e1' _
    subst e0 e0' e1 e1'
    exact ⟨(s, p), rfl⟩
theorem rd24 : Rd 24 (rSl 4 rLink) := rd_slice Try.underlying24 ce40 (by decide) rd40
theorem open_net {H : Type} {enc : TypeId × Value → H} {w : World} {b : Nat} {v : Value} {d : DataW H} {p : List MemPlace} (hv : Value.okWide Try.prog w .any b 26 v) (h : DataW.Trod enc Try.prog w 0 (fun _ => true) true 26 v d p) :
    ∃ n A1 A2 A3 c1 c2 c3, v = netV n A1 A2 A3 c1 c2 c3 ∧ NetS w w.heap.size A1 A2 A3 n := by
  obtain ⟨cs, rfl, hsz⟩ := okWide_struct Try.underlying26 hv
  rw [ce26] at hsz
  obtain ⟨fuel, hf⟩ := h
  obtain ⟨xs, n, _, _, _, hlen, hg⟩ := DataW.trod_struct Try.underlying26 hf
  obtain ⟨l⟩ := cs
  match l, hsz with
  | [a, b, c], _ =>
    match xs, hlen with
    | [y0, y1, y2], _ =>
      obtain ⟨sw, A1, c1, e1, s1⟩ := rd22 H enc w n [a] y0 (by simpa [Value.cells, ce22] using hg 0 _ rfl)
      obtain ⟨ps, A2, c2, e2, s2⟩ := rd23 H enc w n [b] y1 (by simpa [Value.cells, ce23] using hg 1 _ rfl)
      obtain ⟨ls, A3, c3, e3, s3⟩ := rd24 H enc w n [c] y2 (by simpa [Value.cells, ce24] using hg 2 _ rfl)
      cases e1
      cases e2
      cases e3
      exact ⟨⟨sw, ps, ls⟩, A1, A2, A3, c1, c2, c3, rfl, s1, s2, s3⟩
theorem open_ints' {H : Type} {enc : TypeId × Value → H} {w : World} {b : Nat} {v : Value} {d : DataW H} {p : List MemPlace} (hv : Value.okWide Try.prog w .any b 27 v) (h : DataW.Trod enc Try.prog w 0 (fun _ => true) true 27 v d p) :
    ∃ (l : List Int) (L : Option Addr) (lc : Nat), v = .slice L l.length lc ∧ Sl 1 rInt w w.heap.size L l ∧ l.length ≤ lc := by
  obtain ⟨a0, len, cap, rfl⟩ := okWide_slice Try.underlying27 hv
  obtain ⟨fuel, hf⟩ := h
  have hf' : DataW.trod enc Try.prog w 0 (fun _ => true) true fuel 27 [.slice a0 len cap] = some (d, p) := by simpa [Value.cells] using hf
  obtain ⟨l, L, lc, e, s⟩ := rd27 H enc w fuel _ _ hf'
  injection e with e _
  injection e with e1 e2 e3
  subst e1 e2 e3
  refine ⟨l, a0, cap, rfl, s, ?_⟩
  rcases DataW.trod_slice Try.underlying27 hf' with ⟨e, _⟩ | ⟨a, len, cap', _, _, _, _, e, _, _, hl, _⟩
  · injection e with e _
    injection e with _ e2 e3
    omega
  · injection e with e _
    injection e with _ e2 e3
    omega
theorem Try.own : ownKnob Try.prog.godebug = none := by kernel_rfl
theorem Try.laidOut : laidOutB Try.prog = true := by kernel_rfl
theorem rr26 : Try.prog.readableRec 26 = true := by kernel_rfl
theorem rr27 : Try.prog.readableRec 27 = true := by kernel_rfl
theorem rr3 : Try.prog.readableRec 3 = true := by kernel_rfl
theorem ts26 : 26 < Try.prog.types.size := of_decide_eq_true (by kernel_rfl)
theorem ts27 : 27 < Try.prog.types.size := of_decide_eq_true (by kernel_rfl)
theorem ts3 : 3 < Try.prog.types.size := of_decide_eq_true (by kernel_rfl)
set_option maxRecDepth 100000 in
theorem f_lifted (os : Os) (started : os.Started) (H : Type) (enc : TypeId × Value → H) :
    ReturnsInHanded {} Try.checked os 3 .any (Rows.downNetsSpec.pre6 enc Try.prog Try.f3 Rows.downNetsRow.domain false) (Rows.downNetsSpec.post enc Try.prog Try.f3 false true false false) := by
  refine returnsInHanded_of_change_shaped (C := Try.checked) Try.own started (by kernel_rfl) Try.func3
    (ChangeSpec.witness6 (enc := enc) (C := Try.checked) false ⟨#[], #[.agg #[.slice none 0 0, .slice none 0 0, .slice none 0 0], .slice none 0 0, .int .i64 0, .int .i64 0], []⟩ 8 (by kernel_rfl) (by kernel_rfl) (by kernel_rfl) (by kernel_rfl)) ?_
  intro W base args ds gs before hval0 hW hcnd0 _ hsh _
  have hval : ∀ (j : Nat) t v, Try.f3.params[j]? = some t → args[j]? = some v → Value.okWide Try.prog W .any base t v := hval0
  have hW' := hW
  obtain ⟨p, q, hA0, hV, rfl, hfz, hnd⟩ := hW
  have hA : DataW.TrodAll enc Try.prog W 0 (fun _ => true) true Try.f3.params.toList args.toList ds p := hA0
  rw [Try.params3] at hA hval
  obtain ⟨v0, v1, v2, v3, d0, d1, d2, d3, p0, p1, p2, p3, rfl, rfl, rfl, h0, h1, h2, h3⟩ := trodAll_four hA
  obtain ⟨rfl, rfl⟩ := trodVars_none hV
  have hlt : ∀ x ∈ (p0 ++ p1 ++ p2 ++ p3) ++ [], x.block < W.heap.size := fun x hx => hW'.lt x hx
  obtain ⟨n, A1, A2, A3, c1, c2, c3, rfl, hN⟩ := open_net (hval 0 _ v0 rfl rfl) h0
  obtain ⟨l, L, lc, rfl, hL, hlc⟩ := open_ints' (hval 1 _ v1 rfl rfl) h1
  obtain ⟨many, rfl, rfl, rfl, w2⟩ := open_int Try.underlying3 (hval 2 _ v2 rfl rfl) h2
  obtain ⟨k, rfl, rfl, rfl, w3⟩ := open_int Try.underlying3 (hval 3 _ v3 rfl rfl) h3
  obtain ⟨m0, hm0⟩ := Try.laysM144.s1_3 W hsh
  clear hA0 hval0
  refine (law_any (fun w m h => known_any w m h) n l A1 A2 A3 L c1 c2 c3 lc many k m0 W hN hL hlc hm0).mono fun e W' ⟨he, hb⟩ => ?_
  subst he
  refine ⟨_, rfl, post_below (pa := p0 ++ (p1 ++ ([] ++ []))) (pv := []) hW' (fun _ _ _ => trodAll_mk1 (shut_bool Try.underlying4 true)) ?_ rfl (by simp) hb⟩
  exact trodAll_mk4 (Below.trod Try.laidOut rr26 ts26 h0 hb (fun x hx => hlt x (by simp [hx]))) (Below.trod Try.laidOut rr27 ts27 h1 hb (fun x hx => hlt x (by simp [hx]))) (shut_int Try.underlying3 w2) (shut_int Try.underlying3 w3)
theorem downNets_holds : Rows.DownNetsSaid :=
  OpenClaim.holds_of_wide 3 Try.f3 rfl rfl rfl rfl rfl rfl rfl ⟨rfl, rfl, rfl, rfl, rfl⟩ rfl rfl rfl rfl rfl (by kernel_rfl) Try.func3 (by kernel_rfl)
    (of_decide_eq_true (by kernel_rfl)) (by unfold Func.isWrapper; rw [if_neg (of_decide_eq_false (by kernel_rfl))]; exact ⟨rfl, rfl⟩)
    (fun os started H enc _ => f_lifted os started H enc)
end Go.Proofs.Ytjijggighppjbaa

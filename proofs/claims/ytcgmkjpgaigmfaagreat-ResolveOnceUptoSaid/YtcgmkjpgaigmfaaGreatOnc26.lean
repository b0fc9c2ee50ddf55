import Derived.Test.YtcgmkjpgaigmfaaGreatOnc25
import Derived.Shelf.AbstractIn
import Derived.Test.YtcgmkjpgaigmfaaGreatOnc06
import Derived.Maps.AppendAt
import Derived.Laws.OwnMore
import Derived.Deep.AppendLies
import Derived.OwnWalk
set_option linter.all false
/-! Layer 7: each: the items that are of no other one. -/
namespace Go.Proofs.YtcgmkjpgaigmfaaGreat
open Go.RowKit
attribute [local go_sem] Oper.semAt_some
set_option maxRecDepth 100000 in
set_option maxHeartbeats 2000000 in
theorem each_tells {l B : Nat} {xs : List It} {g : Nat → Bool} {J S : Nat → World → Prop} (hY : Yl l B xs g J S) (kind : Int) (n : Nat) (hn : n ≤ 9223372036854775807) (j : Nat) (tot len : Nat → Nat) (ht0 : tot 0 = 0) (hts : ∀ i, tot (i + 1) = tot i + (1 + len i)) (fid : Nat) (lb : Array Value)
    (eg : ∀ args w, (callFunc fid args).run Tryz.prog w = .ok (.enter fid args) w) (W : World)
    (h : ∀ i : Nat, i < n → xs[j + tot i]? = some ⟨kind, (i : Int), 0, zSt⟩)
    (hin : ∀ i : Nat, i < n → ∀ W1, J (j + tot i + 1) W1 → Kp exI W W1 → Calls Tryz.prog fid (#[.int .i64 (i : Int)] ++ lb) W1 (Told xs.length g J S W1 (j + tot i + 1) (len i))) (hJ : J j W) :
    Calls Tryz.prog 49 #[.int .u8 kind, .int .i64 (n : Int), .func (.yield l) #[] #[], .func (.func fid) #[] lb] W (Told xs.length g J S W j (tot n)) := by
  have hmono : ∀ k i, tot k ≤ tot (k + i) := fun k i => by
    induction i with
    | zero => exact Nat.le_refl _
    | succ i ih => rw [← Nat.add_assoc, hts]; omega
  replace hmono := hide hmono
  replace hts := hide hts
  refine (callsIn_wide (n := 3)).1 (callsIn_of_wp_marks Tryz.func49 rfl trivial ?_)
  simp only [Tryz.ntmps49, List.size_toArray, List.length_cons, List.length_nil, Nat.reduceAdd, Nat.reduceSub, Array.replicate_succ, Array.replicate_zero, List.push_toArray, List.append_toArray, List.nil_append, List.cons_append]
  replace hin := hide hin
  replace h := hide h
  gi_wp2
  refine wpIn_loop (fun a1 W' => ∃ (k : Nat) (u9 u12 u13 u14 u15 u16 u17 u18 u19 u20 u21 u22 u23 u24 u25 u26 : Value), k ≤ n ∧ runB g j (tot k) = true ∧ J (j + tot k) W' ∧ Kp exI W W' ∧
      a1 = { tmps := #[.int .u8 kind, .int .i64 (n : Int), .func (.yield l) #[] #[], .func (.func fid) #[] lb, undef, undef, undef, undef, .bool false, u9, .int .i64 (n : Int), .int .i64 (k : Int), u12, u13, u14, u15, u16, u17, u18, u19, u20, u21, u22, u23, u24, u25, u26], defers := [] })
      (muSlot 11 n) ⟨0, undef, undef, undef, undef, undef, undef, undef, undef, undef, undef, undef, undef, undef, undef, undef, undef, Nat.zero_le _, by rw [ht0]; exact runB_zero _ _, by rw [ht0]; exact hJ, Kp.refl _ _, rfl⟩ ?_
  rintro a1 W' ⟨k, u9, u12, u13, u14, u15, u16, u17, u18, u19, u20, u21, u22, u23, u24, u25, u26, hk, hrun, hJ', hkp, rfl⟩
  by_cases hlt : k < n
  · have hlt1 : (k : Int) < (n : Int) := by omega
    obtain ⟨mm, fn, tmps, assign, body, hy, hR⟩ := hY _ _ _ W' (h.out k hlt) hJ' (itR_zero B kind (k : Int) 0 W')
    have hjk := hide ((List.getElem?_eq_some_iff.1 (h.out k hlt)).1)
    have hsuc := hide (show runB g j (tot (k + 1)) = (runB g j (tot k) && (g (j + tot k) && runB g (j + tot k + 1) (len k))) from by rw [hts.out, runB_add, runB_add, runB_one])
    have hle := hide (show tot (k + 1) ≤ tot n from by have := hmono.out (k + 1) (n - (k + 1)); rwa [show k + 1 + (n - (k + 1)) = n by omega] at this)
    have hrun' := hide hrun
    have htk := hide (hts.out k)
    clear h hJ hJ' ht0 hrun
    gi_wp2
    refine (round_wide0 hR).mono ?_
    rintro e W3 ⟨rfl, h1, h2⟩
    cases hc : g (j + tot k) with
    | true =>
      obtain ⟨hJ3, hk3⟩ := h1 hc
      have hkN := hide (hkp.trans hk3)
      have hcall := hide (hin.out k hlt W3 hJ3 hkN.out)
      replace hc := hide hc
      clear h1 h2 hJ3 hk3
      gi_wp2_with fail
      refine ⟨trivial, ?_⟩
      refine (callsIn_wide.2 hcall.out).mono ?_
      rintro e W4 ⟨rfl, h1, h2⟩
      cases hd : runB g (j + tot k + 1) (len k) with
      | true =>
        obtain ⟨hJ4, hk4⟩ := h1 hd
        have hJM := hide (show J (j + tot (k + 1)) W4 from by rw [htk.out, show j + (tot k + (1 + len k)) = j + tot k + 1 + len k by omega]; exact hJ4)
        have hkM := hide (hkN.out.trans hk4)
        have hrN := hide (show runB g j (tot (k + 1)) = true from by rw [hsuc.out, hrun'.out, hc.out, hd]; rfl)
        clear h1 h2 hJ4 hk4 hd
        gi_wp2
        refine ⟨⟨k + 1, _, _, _, _, _, _, _, _, _, _, _, _, _, _, _, _, by omega, hrN.out, hJM.out, hkM.out, rfl⟩, ?_⟩
        simp only [muSlot, List.getElem?_toArray, List.getElem?_cons_succ, List.getElem?_cons_zero]
        omega
      | false =>
        have hS4 := hide (h2 hd)
        have hrN := hide (show runB g j (tot n) = false from runB_stop (a := tot (k + 1)) (by rw [hsuc.out, hd]; simp) hle.out)
        clear h1 h2 hd
        gi_wp2
        exact ⟨_, results_tmp rfl _ _ _, told_no hrN.out hS4.out⟩
    | false =>
      have hS3 := hide (h2 hc)
      have hrN := hide (show runB g j (tot n) = false from runB_stop (a := tot (k + 1)) (by rw [hsuc.out, hc]; simp) hle.out)
      clear h1 h2 hc
      gi_wp2_with (refine ⟨(fun _ _ => trivial), ?_⟩)
      all_goals exact ⟨_, results_tmp rfl _ _ _, told_no hrN.out ⟨_, hjk.out, hS3.out⟩⟩
  · have hlt1 : ¬ (k : Int) < (n : Int) := by omega
    have hke : k = n := by omega
    subst hke
    have hJN := hide hJ'
    have hkN := hide hkp
    have hrN := hide hrun
    clear hJ' hkp h hJ hrun ht0
    gi_wp2
    exact ⟨_, results_tmp rfl _ _ _, told_yes hrN.out hJN.out hkN.out⟩
end Go.Proofs.YtcgmkjpgaigmfaaGreat
/-! Layer 7: stmts: the items of statements. -/
namespace Go.Proofs.YtcgmkjpgaigmfaaGreat
open Go.RowKit
attribute [local go_sem] Oper.semAt_some
theorem heap_cells {W : World} {k : Nat} {cs : Array Value} {t : TypeId} (h : W.heap[k]? = some (.cells cs t)) : ∀ i, W.cell? ⟨k, i, none⟩ = cs[i]? := by
  intro i
  simp [World.cell?, h]
theorem items_at (a : Int) {L : List St} {k : Nat} (hk : k < L.length) : itemsL a L = itemsL a (L.take k) ++ (itemsS a L[k] ++ itemsL a (L.drop (k + 1))) := by
  simp only [itemsL_flat]
  rw [← List.flatMap_cons, ← List.flatMap_append, ← List.drop_eq_getElem_cons hk, List.take_append_drop]
theorem items_take (a : Int) {L : List St} {k : Nat} (hk : k < L.length) : (itemsL a (L.take (k + 1))).length = (itemsL a (L.take k)).length + (itemsS a L[k]).length := by
  rw [List.take_succ_eq_append_getElem hk]
  simp only [itemsL_flat, List.flatMap_append, List.length_append, List.flatMap_cons, List.flatMap_nil, List.append_nil]
theorem items_take_le (a : Int) (L : List St) (n : Nat) : (itemsL a (L.take n)).length ≤ (itemsL a L).length := by
  have e : itemsL a L = itemsL a (L.take n) ++ itemsL a (L.drop n) := by
    simp only [itemsL_flat]
    rw [← List.flatMap_append, List.take_append_drop]
  rw [e, List.length_append]
  omega
end Go.Proofs.YtcgmkjpgaigmfaaGreat
/-! A state's own end ahead of its cases: what append makes. -/
namespace Go.Proofs.YtcgmkjpgaigmfaaGreat
open Go.RowKit
/-- append, kept from being opened. -/
def AppG (ts : Array TypeId) (ty : TypeId) (args : Array Value) : Sem Value := Builtin.append_ ts ty args
theorem app_eq (ts : Array TypeId) (ty : TypeId) (args : Array Value) : Builtin.append_ ts ty args = AppG ts ty args := rfl
theorem case_info : (Tryz.prog.info? 57).map (fun i => (i.zero, i.size, i.bytes)) = some (some (.agg #[.bool false, .slice none 0 0, .string ⟨#[]⟩]), 3, 48) := by kernel_rfl
/-- What a row of cases holds, cell by cell. -/
def caseCell (l : List Ca) (dest : ByteArray) (j : Nat) (u : Value) : Prop :=
  u.oneCell' = true ∧ (j % 3 = 0 → ∃ b, u = .bool b) ∧ (j % 3 = 1 → ∃ A n c, u = .slice A n c) ∧ (j % 3 = 2 → ∃ s, u = .string s ∧ (s = dest ∨ ∃ x ∈ l, s = x.dest))
theorem case_cells {W : World} {B : Nat} {A : Option Addr} {l : List Ca} (hs : Sl 3 rCa W B A l) (dest : ByteArray) {ad : Addr} (hA : A = some ad) (j : Nat) (hj : j < l.length * 3) : ∃ u, W.cell? (ad.add j) = some u ∧ ad.block < B ∧ caseCell l dest j u := by
  have hi : j / 3 < l.length := by omega
  obtain ⟨b, o, ecs, hA', hb, hel, hcell, A', c', rfl, hn, hF⟩ := hs.2 (j / 3) _ (List.getElem?_eq_getElem hi)
  subst hA
  injection hA' with hA'
  subst hA'
  have hadd : (⟨b, o, none⟩ : Addr).add j = ⟨b, o + j, none⟩ := by unfold Addr.add; split <;> simp_all
  rw [hadd]
  have hr : j = j / 3 * 3 + j % 3 := by omega
  rcases (show j % 3 = 0 ∨ j % 3 = 1 ∨ j % 3 = 2 by omega) with h | h | h
  · exact ⟨_, by rw [show o + j = o + j / 3 * 3 by omega]; simpa using hcell 0 _ rfl, hb, rfl, fun _ => ⟨_, rfl⟩, fun h' => by omega, fun h' => by omega⟩
  · exact ⟨_, by rw [show o + j = o + j / 3 * 3 + 1 by omega]; exact hcell 1 _ rfl, hb, rfl, fun h' => by omega, fun _ => ⟨_, _, _, rfl⟩, fun h' => by omega⟩
  · exact ⟨_, by rw [show o + j = o + j / 3 * 3 + 2 by omega]; exact hcell 2 _ rfl, hb, rfl, fun h' => by omega, fun h' => by omega, fun _ => ⟨_, rfl, .inr ⟨_, List.getElem_mem hi, rfl⟩⟩⟩
theorem sl_zero {α : Type} {R : CR α} {k : Nat} {w : World} {B : Nat} {xs : List α} (h : Sl k R w B none xs) : xs = [] := by
  cases xs with
  | nil => rfl
  | cons x xs =>
    obtain ⟨b, o, _, he, _⟩ := h.2 0 x rfl
    cases he
/-- The row that append has made. -/
def CaseRow (w w' : World) (B : Nat) (g n : Nat) (l : List Ca) (dest : ByteArray) : Prop :=
  Below B w w' ∧ B ≤ g ∧ g < w'.heap.size ∧ ∀ j, j < n * 3 → ∃ u, w'.cell? ⟨g, j, none⟩ = some u ∧ caseCell l dest j u
theorem append_cases {W : World} {B : Nat} {A : Option Addr} {c : Nat} {l : List Ca} (dest : ByteArray) (hs : Sl 3 rCa W B A l) (hBW : B ≤ W.heap.size) (hz : l.length ≤ 100) :
    ∃ g cap w', (AppG #[50, 50] 50 #[.slice (some ⟨W.heap.size, 0, none⟩) 1 1, .slice A l.length c]).run Tryz.prog (W.alloc (.cells #[.bool false, .slice none 0 0, .string dest] 57)) = .ok (.slice (some ⟨g, 0, none⟩) (l.length + 1) cap) w' ∧ CaseRow W w' W.heap.size g (l.length + 1) l dest := by
  obtain ⟨ii, hii, hzi0, hzi1, hzi2⟩ := info_parts case_info
  have hown := World.ownsRow_lit (e := 57) (size := 3) W #[.bool false, .slice none 0 0, .string dest] 1 (Nat.le_refl _) (by decide) rfl
  have hb1 : Below W.heap.size W (W.alloc (.cells #[.bool false, .slice none 0 0, .string dest] 57)) := (Below.refl _ _).alloc (Nat.le_refl _) _
  have hnew : ∀ j, (W.alloc (.cells #[.bool false, .slice none 0 0, .string dest] 57)).cell? ⟨W.heap.size, j, none⟩ = (#[Value.bool false, .slice none 0 0, .string dest] : Array Value)[j]? := fun j => World.cell?_alloc_at _ _ _ _ rfl
  have hsz : (W.alloc (.cells #[.bool false, .slice none 0 0, .string dest] 57)).heap.size = W.heap.size + 1 := by simp
  generalize W.alloc (.cells #[.bool false, .slice none 0 0, .string dest] 57) = W1 at *
  have hfirst : ∀ j, j < 3 → ∃ u, (#[Value.bool false, .slice none 0 0, .string dest] : Array Value).toList[j]? = some u ∧ caseCell l dest j u := fun j hj => by
    rcases (show j = 0 ∨ j = 1 ∨ j = 2 by omega) with rfl | rfl | rfl
    · exact ⟨_, rfl, rfl, fun _ => ⟨_, rfl⟩, fun h' => by omega, fun h' => by omega⟩
    · exact ⟨_, rfl, rfl, fun h' => by omega, fun _ => ⟨_, _, _, rfl⟩, fun h' => by omega⟩
    · exact ⟨_, rfl, rfl, fun h' => by omega, fun h' => by omega, fun _ => ⟨_, rfl, .inl rfl⟩⟩
  rcases A with _ | ad
  · have hy := sl_zero hs
    subst hy
    refine ⟨W.heap.size, 1, W1, ?_, hb1, Nat.le_refl _, by omega, fun j hj => ?_⟩
    · unfold AppG
      simp [Builtin.append_, run_underlying Tryz.underlying50, sizeOf, typeInfo, hii, Builtin.lenOf, Builtin.firstCells, storeCells]
    · obtain ⟨u, h1, h2⟩ := hfirst j (by simpa using hj)
      exact ⟨u, (hnew j).trans (by simpa using h1), h2⟩
  · have hc := fun j hj => case_cells hs dest (ad := ad) rfl j hj
    have hl : ((List.range (l.length * 3)).map fun j => (W1.cell? (ad.add j)).getD (.bool false)).length = l.length * 3 := by simp
    have hn : ∀ j u, ((List.range (l.length * 3)).map fun j => (W1.cell? (ad.add j)).getD (.bool false))[j]? = some u → W1.cell? (ad.add j) = some u ∧ caseCell l dest j u := fun j u hu => by
      rw [List.getElem?_map] at hu
      have hj : j < l.length * 3 := by
        rcases Nat.lt_or_ge j (l.length * 3) with h | h
        · exact h
        · rw [List.getElem?_eq_none (by simpa using h)] at hu; cases hu
      rw [List.getElem?_range hj] at hu
      obtain ⟨v, h1, h2, h3⟩ := hc j hj
      have hbk : (ad.add j).block = ad.block := by unfold Addr.add; split <;> rfl
      have hbl : (ad.add j).block < W.heap.size := by rw [hbk]; omega
      have h4 : W1.cell? (ad.add j) = some v := (hb1.cell hbl).trans h1
      simp only [h4, Option.map_some, Option.getD_some, Option.some.injEq] at hu
      subst hu
      exact ⟨h4, h3⟩
    generalize (List.range (l.length * 3)).map (fun j => (W1.cell? (ad.add j)).getD (.bool false)) = news at hl hn
    obtain ⟨v', w', hrun, ho, hg, _, _⟩ := run_append_own_at (P := Tryz.prog) W1 W.heap.size 50 50 57 ii _ 3 48 Tryz.underlying50 hii hzi0 hzi1 hzi2 rfl (by omega) _ 1 _ hown ad l.length c news hl (fun j u hu => (hn j u hu).1) (fun u hu => by
      obtain ⟨j, hj, rfl⟩ := List.getElem_of_mem hu
      exact (hn j _ (List.getElem?_eq_getElem hj)).2.1) (by simp [maxLen]; omega) (by omega) (by omega)
    obtain ⟨g, cap, rfl, hgb, hgs⟩ := ho.form (by omega)
    refine ⟨g, cap, w', by rw [Nat.add_comm l.length 1]; exact hrun, hb1.trans ((Below.refl _ _).grown hg (by omega) (fun k e => by cases e; exact Nat.le_refl _)), hgb, hgs, fun j hj => ?_⟩
    rw [ho.cellAt j (by omega)]
    by_cases h3 : j < 3
    · obtain ⟨u, h1, h2⟩ := hfirst j h3
      refine ⟨u, ?_, h2⟩
      rw [List.getElem?_append_left (by simpa using h3)]
      exact h1
    · rw [List.getElem?_append_right (by simpa using h3)]
      have hj' : j - 3 < news.length := by omega
      obtain ⟨_, h2⟩ := hn (j - 3) _ (List.getElem?_eq_getElem hj')
      refine ⟨news[j - 3], by simpa using List.getElem?_eq_getElem hj', ?_⟩
      have hm : (j - 3) % 3 = j % 3 := by omega
      unfold caseCell at h2 ⊢
      rw [hm] at h2
      exact h2
end Go.Proofs.YtcgmkjpgaigmfaaGreat

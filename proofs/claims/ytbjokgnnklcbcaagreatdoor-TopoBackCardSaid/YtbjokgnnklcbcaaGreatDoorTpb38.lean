import Derived.Test.YtbjokgnnklcbcaaGreatDoorTpb37
import Derived.Test.YtbjokgnnklcbcaaGreatDoorTpb36
set_option linter.all false
/-! Plain: a network that may be, written, is read as the same. -/
namespace Go.Proofs.YtbjokgnnklcbcaaGreatDoor
open Go.Lib
theorem st_cons {l : List Tk} {t : T0} {ts : List T0} (h : l.map st = t :: ts) : st (headT l) = t ∧ l.tail.map st = ts := by
 cases l with
 | nil => cases h
 | cons a r =>
  rw [List.map_cons] at h
  injection h with h1 h2
  exact ⟨h1, h2⟩
theorem st_parts {t : Tk} {k n w : Nat} {s : List UInt8} (h : st t = (k, s, w, n)) : t.kind = k ∧ t.s = s ∧ t.w = w ∧ t.n = n := by
 unfold st at h
 injection h with h1 h
 injection h with h2 h
 injection h with h3 h4
 exact ⟨h1, h2, h3, h4⟩
theorem st_adv {l : List Tk} {k n w : Nat} {s : List UInt8} {ts : List T0} (h : l.map st = (k, s, w, n) :: ts) (hk : k ≠ 0) : (advT l).map st = ts := by
 obtain ⟨h1, h2⟩ := st_cons h
 unfold advT
 rw [if_neg (by rw [(st_parts h1).1]; exact hk)]
 exact h2
theorem st_isT {l : List Tk} {k n w : Nat} {s : List UInt8} {ts : List T0} (h : l.map st = (k, s, w, n) :: ts) (x : List UInt8) : isT x l = (s == x && (k == 3 || k == 1)) := by
 obtain ⟨h1, h2⟩ := st_cons h
 obtain ⟨a, b, -, -⟩ := st_parts h1
 unfold isT
 rw [a, b]
theorem st_want {l : List Tk} {s : List UInt8} {ts : List T0} (h : l.map st = (3, s, 0, 0) :: ts) : ∃ l', wantT s l = .ok l' ∧ l'.map st = ts := by
 refine ⟨advT l, ?_, st_adv h (by decide)⟩
 unfold wantT
 rw [st_isT h, if_pos (by simp)]
theorem st_name {l : List Tk} {s : List UInt8} {ts : List T0} (h : l.map st = (1, s, 0, 0) :: ts) (hn : nameB ⟨s.toArray⟩ = true) : ∃ l', nameT l = .ok (s, l') ∧ l'.map st = ts := by
 refine ⟨advT l, ?_, st_adv h (by decide)⟩
 obtain ⟨h1, h2⟩ := st_cons h
 obtain ⟨a, b, -, -⟩ := st_parts h1
 unfold nameT nmT
 rw [a, b, hn]
 rfl
theorem st_port {l : List Tk} {s : List UInt8} {m : Nat} {ts : List T0} (h : l.map st = (2, s, 0, m) :: ts) (h1 : 1 ≤ m) (h2 : m ≤ 511) : ∃ l', portT l = .ok ((m : Int), l') ∧ l'.map st = ts := by
 refine ⟨advT l, ?_, st_adv h (by decide)⟩
 obtain ⟨h3, -⟩ := st_cons h
 obtain ⟨a, -, c, d⟩ := st_parts h3
 unfold portT
 simp only [a, c, d]
 rw [if_neg (by simp), if_neg (by simp), if_neg (by omega)]
theorem may_ports {l : List Int} (h : mayPortsB l = true) : (∀ x ∈ l, 1 ≤ x ∧ x ≤ 511) ∧ l.Pairwise (· < ·) ∧ l.length ≤ 8 := by
 unfold mayPortsB at h
 rw [Bool.and_eq_true, decide_eq_true_eq, decide_eq_true_eq, ports_iff] at h
 exact ⟨h.1.1, h.1.2, h.2⟩
theorem sortP_same {l : List Int} (h : mayPortsB l = true) : sortP l = l := by
 obtain ⟨h1, h2, -⟩ := may_ports h
 exact rise_ext' _ _ (sortP_rises l) h2 fun x => by
  rw [sortP_mem]
  exact ⟨fun g => g.2, fun g => ⟨h1 x g, g⟩⟩
theorem st_ports {ts : List T0} : ∀ (ps acc : List Int) (f : Nat) (l : List Tk), ps.length < f → acc.length + ps.length ≤ 8 → (acc ++ ps).Nodup → (∀ p ∈ ps, 1 ≤ p ∧ p ≤ 511) → l.map st = portTs ps ++ (3, bShut, 0, 0) :: ts →
  ∃ l', portsT f acc l = .ok (acc ++ ps, l') ∧ l'.map st = (3, bShut, 0, 0) :: ts
 | [], acc, f, l, hf, _, _, _, h => by
  match f, hf with
  | f + 1, _ =>
   refine ⟨l, ?_, h⟩
   have h' : l.map st = (3, bShut, 0, 0) :: ts := h
   unfold portsT
   rw [st_isT h', if_pos (by simp), List.append_nil]
 | p :: r, acc, f, l, hf, h8, hn, hp, h => by
  match f, hf with
  | f + 1, hf =>
   have h' : l.map st = (2, itoa p, 0, p.toNat) :: (3, bSemi, 0, 0) :: (portTs r ++ (3, bShut, 0, 0) :: ts) := by simpa [portTs] using h
   obtain ⟨p1, p2⟩ := hp p List.mem_cons_self
   simp only [List.length_cons] at h8 hf
   obtain ⟨l1, e1, g1⟩ := st_port h' (by omega) (by omega)
   obtain ⟨l2, e2, g2⟩ := st_want g1
   have hpp : ((p.toNat : Nat) : Int) = p := by omega
   rw [hpp] at e1
   have hna : p ∉ acc := by
    intro hm
    rw [List.nodup_append] at hn
    exact hn.2.2 p hm p List.mem_cons_self rfl
   obtain ⟨l3, e3, g3⟩ := st_ports r (acc ++ [p]) f l2 (by omega) (by simp; omega) (by simpa using hn) (fun q hq => hp q (List.mem_cons_of_mem _ hq)) g2
   refine ⟨l3, ?_, g3⟩
   unfold portsT
   rw [st_isT h', if_neg (by simp), if_neg (fun g => g (.inl (by omega))), e1]
   simp only
   rw [if_neg hna, e2]
   simp only
   rw [e3]
   simp
theorem portTs_len : ∀ ps : List Int, (portTs ps).length = 2 * ps.length
 | [] => rfl
 | p :: r => by
  have h1 := portTs_len r
  have h2 : portTs (p :: r) = (2, itoa p, 0, p.toNat) :: (3, bSemi, 0, 0) :: portTs r := rfl
  rw [h2]
  simp only [List.length_cons]
  omega
theorem st_prts {ps : List Int} {l : List Tk} {ts : List T0} (hp : mayPortsB ps = true) (h : l.map st = (3, bOpen, 0, 0) :: (portTs ps ++ (3, bShut, 0, 0) :: ts)) : ∃ l', prtsT l = .ok (ps, l') ∧ l'.map st = ts := by
 obtain ⟨a, b, c⟩ := may_ports hp
 obtain ⟨l1, e1, g1⟩ := st_want h
 have hlen : ps.length < l1.length := by
  have := congrArg List.length g1
  rw [List.length_map, List.length_append, List.length_cons] at this
  have h2 := portTs_len ps
  omega
 obtain ⟨l2, e2, g2⟩ := st_ports ps [] l1.length l1 hlen (by simpa using c) (by
  rw [List.nil_append, List.nodup_iff_pairwise_ne]
  exact b.imp fun h => by omega) a g1
 obtain ⟨l3, e3, g3⟩ := st_want g2
 refine ⟨l3, ?_, g3⟩
 unfold prtsT
 rw [e1]
 simp only
 rw [e2]
 simp only [List.nil_append]
 rw [e3]
 simp only [sortP_same hp]
theorem st_sw {n : Net} {s : ByteArray} {ps : List Int} {l : List Tk} {ts : List T0} (h8 : n.sw.length < 8) (hs : nameB s = true) (hn : s ∉ n.sw) (hp : mayPortsB ps = true) (h : l.map st = swTs s ps ++ ts) :
  isT bSwitch l = true ∧ ∃ l', swT n l = .ok (⟨n.sw ++ [s], n.ports ++ [ps], n.links⟩, l') ∧ l'.map st = ts := by
 have h' : l.map st = (1, bSwitch, 0, 0) :: (1, s.data.toList, 0, 0) :: (3, bOpen, 0, 0) :: (portTs ps ++ (3, bShut, 0, 0) :: ts) := by simpa [swTs] using h
 refine ⟨by rw [st_isT h']; simp, ?_⟩
 obtain ⟨l2, e2, g2⟩ := st_name (st_adv h' (by decide)) hs
 obtain ⟨l3, e3, g3⟩ := st_prts hp g2
 refine ⟨l3, ?_, g3⟩
 unfold swT
 rw [if_neg (fun g => g h8), e2]
 simp only
 rw [if_neg (show ¬ (⟨s.data.toList.toArray⟩ : ByteArray) ∈ n.sw from hn), e3]
theorem st_sws {ts : List T0} (hts : ∀ l : List Tk, l.map st = ts → isT bSwitch l = false) : ∀ (r : List (ByteArray × List Int)) (n : Net) (f : Nat) (l : List Tk), r.length < f → n.sw.length + r.length ≤ 8 → (∀ x ∈ r, nameB x.1 = true ∧ mayPortsB x.2 = true) → (n.sw ++ r.map (·.1)).Nodup → l.map st = r.flatMap (fun x => swTs x.1 x.2) ++ ts →
  ∃ l', swsT f n l = .ok (⟨n.sw ++ r.map (·.1), n.ports ++ r.map (·.2), n.links⟩, l') ∧ l'.map st = ts
 | [], n, f, l, hf, _, _, _, h => by
  match f, hf with
  | f + 1, _ =>
   refine ⟨l, ?_, h⟩
   unfold swsT
   rw [hts l h]
   simp
 | x :: r, n, f, l, hf, h8, hx, hn, h => by
  match f, hf with
  | f + 1, hf =>
   simp only [List.length_cons] at h8 hf
   have h' : l.map st = swTs x.1 x.2 ++ (r.flatMap (fun x => swTs x.1 x.2) ++ ts) := by simpa using h
   have hxs : x.1 ∉ n.sw := by
    intro hm
    rw [List.nodup_append] at hn
    exact hn.2.2 x.1 hm x.1 (by simp) rfl
   obtain ⟨e1, l1, e2, g1⟩ := st_sw (n := n) (by omega) (hx x List.mem_cons_self).1 hxs (hx x List.mem_cons_self).2 h'
   obtain ⟨l2, e3, g2⟩ := st_sws hts r ⟨n.sw ++ [x.1], n.ports ++ [x.2], n.links⟩ f l1 (by omega) (by simp; omega) (fun y hy => hx y (List.mem_cons_of_mem _ hy)) (by simpa using hn) g1
   refine ⟨l2, ?_, g2⟩
   unfold swsT
   rw [e1, if_pos rfl, e2]
   simp only
   rw [e3]
   simp
theorem st_end {n m : Net} (hm : mayB n = true) (h1 : m.sw = n.sw) (h2 : m.ports = n.ports) {e : Int × Int} (ht : thereB n e = true) (hf : e ∉ endsOf m.links) {l : List Tk} {ts : List T0} (h : l.map st = endTs n e ++ ts) : ∃ l' pl, endT m l = .ok (pl, e, l') ∧ l'.map st = ts := by
 obtain ⟨a, ⟨b1, b2⟩, c, d⟩ := there_parts hm ht
 have h' : l.map st = (1, (n.sw.getD e.1.toNat ByteArray.empty).data.toList, 0, 0) :: (3, bColon, 0, 0) :: (2, itoa e.2, 0, e.2.toNat) :: ts := h
 obtain ⟨l1, e1, g1⟩ := st_name h' a
 obtain ⟨l2, e2, g2⟩ := st_want g1
 obtain ⟨l3, e3, g3⟩ := st_port g2 (by omega) (by omega)
 refine ⟨l3, (headT l2).pl, ?_, g3⟩
 have hpp : ((e.2.toNat : Nat) : Int) = e.2 := by omega
 rw [hpp] at e3
 obtain ⟨-, hsw, -, -⟩ := mayB_iff.1 hm
 have hlt : e.1.toNat < n.sw.length := by omega
 have hfi : findI m.sw (⟨(n.sw.getD e.1.toNat ByteArray.empty).data.toList.toArray⟩ : ByteArray) = e.1 := by
  show findI m.sw (n.sw.getD e.1.toNat ByteArray.empty) = e.1
  have hno := (hsw _ hlt).2.1
  rw [h1]
  rw [getD_eq hlt] at hno ⊢
  rw [findI_at hlt hno rfl]
  omega
 have hmem : (⟨(n.sw.getD e.1.toNat ByteArray.empty).data.toList.toArray⟩ : ByteArray) ∈ m.sw := by
  show n.sw.getD e.1.toNat ByteArray.empty ∈ m.sw
  rw [h1, getD_eq hlt]
  exact List.getElem_mem hlt
 have hth : thereB m e = true := by
  unfold thereB at ht ⊢
  rw [h2]; exact ht
 unfold endT
 rw [e1]
 simp only
 rw [if_pos hmem, e2]
 simp only
 rw [e3]
 simp only [hfi]
 rw [if_neg (by rw [hth]; decide), if_neg]
 rw [next_two hth]
 intro g
 exact hf (mem_ends.2 (nextL_some.1 g))
theorem st_lns {n : Net} (hm : mayB n = true) {ts : List T0} (hts : ∀ l : List Tk, l.map st = ts → isT bLink l = false) : ∀ (r done : List Lnk) (f : Nat) (l : List Tk), r.length < f → (∀ e ∈ endsOf r, thereB n e = true) → (endsOf (done ++ r)).Nodup → l.map st = r.flatMap (lnTs n) ++ ts →
  ∃ l', lnsT f ⟨n.sw, n.ports, done⟩ l = .ok (⟨n.sw, n.ports, done ++ r⟩, l') ∧ l'.map st = ts
 | [], done, f, l, hf, _, _, h => by
  match f, hf with
  | f + 1, _ =>
   refine ⟨l, ?_, h⟩
   unfold lnsT
   rw [hts l h]
   simp
 | x :: r, done, f, l, hf, hx, hn, h => by
  match f, hf with
  | f + 1, hf =>
   simp only [List.length_cons] at hf
   have h' : l.map st = (1, bLink, 0, 0) :: (endTs n x.1 ++ (endTs n x.2 ++ (3, bSemi, 0, 0) :: (r.flatMap (lnTs n) ++ ts))) := by simpa [lnTs] using h
   have he : endsOf (done ++ x :: r) = endsOf done ++ x.1 :: x.2 :: endsOf r := by unfold endsOf; simp
   rw [he, List.nodup_append] at hn
   obtain ⟨n1, n2, n3⟩ := hn
   have f1 : x.1 ∉ endsOf done := fun g => n3 x.1 g x.1 (by simp) rfl
   have f2 : x.2 ∉ endsOf done := fun g => n3 x.2 g x.2 (by simp) rfl
   have f3 : x.1 ≠ x.2 := by
    intro g
    rw [List.nodup_cons] at n2
    exact n2.1 (by rw [g]; exact List.mem_cons_self)
   have hx1 := hx x.1 (mem_ends.2 ⟨x, List.mem_cons_self, .inl rfl⟩)
   have hx2 := hx x.2 (mem_ends.2 ⟨x, List.mem_cons_self, .inr rfl⟩)
   obtain ⟨l1, pl1, e1, g1⟩ := st_end (m := ⟨n.sw, n.ports, done⟩) hm rfl rfl hx1 f1 (st_adv h' (by decide))
   obtain ⟨l2, pl2, e2, g2⟩ := st_end (m := ⟨n.sw, n.ports, done⟩) hm rfl rfl hx2 f2 g1
   obtain ⟨l3, e3, g3⟩ := st_want g2
   obtain ⟨l4, e4, g4⟩ := st_lns hm hts r (done ++ [x]) f l3 (by omega) (fun e he => hx e (by unfold endsOf at he ⊢; simp only [List.flatMap_cons, List.mem_append]; exact .inr he)) (by
    have : endsOf (done ++ [x] ++ r) = endsOf (done ++ x :: r) := by simp
    rw [this, he, List.nodup_append]
    exact ⟨n1, n2, n3⟩) g3
   refine ⟨l4, ?_, g4⟩
   unfold lnsT
   rw [st_isT h', if_pos (by simp)]
   unfold lnT
   rw [e1]
   simp only
   rw [e2]
   simp only
   rw [if_neg f3, e3]
   simp only
   rw [e4]
   simp
theorem all_text {n : Net} (hm : mayB n = true) {l : List Tk} (h : l.map st = textTs n) : allT l = .ok n := by
 obtain ⟨⟨h1, h2⟩, h3, h4, h5⟩ := mayB_iff.1 hm
 have hend : ∀ (x : List UInt8), x ≠ [] → ∀ l : List Tk, l.map st = [(0, [], 0, 0)] → isT x l = false := fun x hx l hl => by
  rw [st_isT hl]; simp
 have hl0 : l.map st = (n.sw.zip n.ports).flatMap (fun x => swTs x.1 x.2) ++ (n.links.flatMap (lnTs n) ++ [(0, [], 0, 0)]) := h
 have hlen := congrArg List.length hl0
 rw [List.length_map, List.length_append] at hlen
 have hge : ∀ r : List (ByteArray × List Int), r.length ≤ (r.flatMap (fun x => swTs x.1 x.2)).length := by
  intro r
  induction r with
  | nil => simp
  | cons x r ih =>
   simp only [List.flatMap_cons, List.length_append, List.length_cons]
   have : 1 ≤ (swTs x.1 x.2).length := by simp [swTs]
   omega
 have hge2 : ∀ r : List Lnk, r.length ≤ (r.flatMap (lnTs n)).length := by
  intro r
  induction r with
  | nil => simp
  | cons x r ih =>
   simp only [List.flatMap_cons, List.length_append, List.length_cons]
   have : 1 ≤ (lnTs n x).length := by simp [lnTs]
   omega
 have hz1 : (n.sw.zip n.ports).map (·.1) = n.sw := by
  rw [List.map_fst_zip (by omega)]
 have hz2 : (n.sw.zip n.ports).map (·.2) = n.ports := by
  rw [List.map_snd_zip (by omega)]
 have hnd : n.sw.Nodup := by
  rw [← distinct_nodup]
  intro i hi
  have := (h3 i hi).2.1
  rwa [getD_eq hi] at this
 have hsw : ∀ l : List Tk, l.map st = n.links.flatMap (lnTs n) ++ [(0, [], 0, 0)] → isT bSwitch l = false := by
  intro l hl
  cases hls : n.links with
  | nil => rw [hls] at hl; exact hend bSwitch (by decide) l hl
  | cons x r =>
   rw [hls] at hl
   have : l.map st = (1, bLink, 0, 0) :: (endTs n x.1 ++ (endTs n x.2 ++ [(3, bSemi, 0, 0)]) ++ (r.flatMap (lnTs n) ++ [(0, [], 0, 0)])) := by simpa [lnTs] using hl
   rw [st_isT this]
   decide
 obtain ⟨l1, e1, g1⟩ := st_sws hsw (n.sw.zip n.ports) emptyN l.length l (by
  have := hge (n.sw.zip n.ports)
  simp only [List.length_append, List.length_cons, List.length_nil] at hlen
  omega) (by simp [emptyN]; omega) (fun x hx => by
   obtain ⟨i, hi, rfl⟩ := List.getElem_of_mem hx
   rw [List.length_zip] at hi
   obtain ⟨a, -, z⟩ := h3 i (by omega)
   rw [getD_eq (by omega)] at a z
   rw [List.getElem_zip]
   exact ⟨a, z⟩) (by rw [hz1]; simpa [emptyN] using hnd) hl0
 rw [hz1, hz2] at e1
 have e1' : swsT l.length emptyN l = .ok (⟨n.sw, n.ports, []⟩, l1) := by simpa [emptyN] using e1
 have hlen1 := congrArg List.length g1
 rw [List.length_map, List.length_append] at hlen1
 obtain ⟨l2, e2, g2⟩ := st_lns hm (hend bLink (by decide)) n.links [] l1.length l1 (by
  have := hge2 n.links
  simp only [List.length_cons, List.length_nil] at hlen1
  omega) h4 (by simpa using h5) g1
 obtain ⟨g3, -⟩ := st_cons g2
 unfold allT
 rw [e1']
 simp only
 rw [e2]
 simp only
 rw [if_pos (st_parts g3).1]
 simp
theorem sub_len' {α : Type} [DecidableEq α] : ∀ (a l : List α), a.Nodup → (∀ x ∈ a, x ∈ l) → a.length ≤ l.length
 | [], _, _, _ => Nat.zero_le _
 | x :: a, l, hn, h => by
  have hx := h x List.mem_cons_self
  have hn' := List.nodup_cons.1 hn
  have := sub_len' a (l.erase x) hn'.2 fun y hy => (List.mem_erase_of_ne (fun e : y = x => hn'.1 (e ▸ hy))).2 (h y (List.mem_cons_of_mem _ hy))
  rw [List.length_erase_of_mem hx] at this
  have := List.length_pos_of_mem hx
  simp only [List.length_cons]
  omega
theorem flat_len {α β : Type} (f : α → List β) (k : Nat) : ∀ l : List α, (∀ x ∈ l, (f x).length ≤ k) → (l.flatMap f).length ≤ k * l.length
 | [], _ => by simp
 | x :: l, h => by
  have ih := flat_len f k l fun y hy => h y (List.mem_cons_of_mem _ hy)
  have := h x List.mem_cons_self
  simp only [List.flatMap_cons, List.length_append, List.length_cons, Nat.mul_succ]
  omega
theorem itoa_len {p : Int} (h1 : 1 ≤ p) (h2 : p ≤ 511) : (itoa p).length ≤ 3 := by
 unfold itoa
 rw [if_neg (by omega), dec_dig3 (by omega)]
 unfold dig3
 split
 ·simp
 ·split <;> simp
theorem text_len {n : Net} (hm : mayB n = true) : (textB n).length ≤ 65536 ∧ n.links.length ≤ 32 := by
 obtain ⟨⟨h1, h2⟩, h3, h4, h5⟩ := mayB_iff.1 hm
 have hl : n.links.length ≤ 32 := by
  have hs := sub_len' (endsOf n.links) ((List.range n.ports.length).flatMap fun i : Nat => (n.ports.getD i []).map fun p => ((i : Int), p)) h5 fun e he => by
   have ht := h4 e he
   unfold thereB at ht
   rw [decide_eq_true_eq] at ht
   rw [List.mem_flatMap]
   refine ⟨e.1.toNat, List.mem_range.2 (by omega), List.mem_map.2 ⟨e.2, ht.2.2, ?_⟩⟩
   obtain ⟨a, b⟩ := e
   simp only at ht ⊢
   rw [show ((a.toNat : Nat) : Int) = a by omega]
  have hk := flat_len (fun i : Nat => (n.ports.getD i []).map fun p => ((i : Int), p)) 8 (List.range n.ports.length) fun i hi => by
   rw [List.length_map]
   have hi' := List.mem_range.1 hi
   exact (may_ports (h3 i (by omega)).2.2).2.2
  rw [endsOf_len] at hs
  rw [List.length_range] at hk
  omega
 refine ⟨?_, hl⟩
 unfold textB
 rw [List.length_append]
 have hsw := flat_len (fun x : ByteArray × List Int => swTx x.1 x.2) 100 (n.sw.zip n.ports) fun x hx => by
  obtain ⟨i, hi, rfl⟩ := List.getElem_of_mem hx
  rw [List.length_zip] at hi
  obtain ⟨a, -, z⟩ := h3 i (by omega)
  rw [getD_eq (by omega)] at a z
  rw [List.getElem_zip]
  obtain ⟨-, -, -, b⟩ := name_parts a
  obtain ⟨z1, z2, z3⟩ := may_ports z
  have hp := flat_len (fun p : Int => 32 :: (itoa p ++ [59])) 5 n.ports[i] fun p hp => by
   have := itoa_len (z1 p hp).1 (z1 p hp).2
   simp
   omega
  simp only [swTx, bSwitch, List.length_append, List.length_cons, List.length_nil]
  omega
 have hend : ∀ e : Int × Int, thereB n e = true → (endTx n e).length ≤ 21 := fun e he => by
  obtain ⟨a, ⟨b1, b2⟩, -, -⟩ := there_parts hm he
  obtain ⟨-, -, -, b⟩ := name_parts a
  have := itoa_len b1 b2
  simp only [endTx, List.length_append, List.length_cons]
  omega
 have hln := flat_len (lnTx n) 50 n.links fun x hx => by
  have a := hend x.1 (h4 _ (mem_ends.2 ⟨x, hx, .inl rfl⟩))
  have b := hend x.2 (h4 _ (mem_ends.2 ⟨x, hx, .inr rfl⟩))
  simp only [lnTx, bLink, List.length_append, List.length_cons, List.length_nil]
  omega
 rw [List.length_zip] at hsw
 have : min n.sw.length n.ports.length ≤ 8 := by omega
 have := Nat.mul_le_mul_left 100 this
 have := Nat.mul_le_mul_left 50 hl
 omega
/-- What may be, written, is read as the same. -/
theorem text_back {n : Net} (hm : mayB n = true) : readT (textB n) = .ok n := by
 unfold readT lexR
 rw [if_neg (by have := (text_len hm).1; omega)]
 obtain ⟨r, h1, h2⟩ := lx_text hm _ 0 (Nat.lt_succ_self _)
 rw [h1]
 exact all_text hm h2
end Go.Proofs.YtbjokgnnklcbcaaGreatDoor
/-! Layer 13: an end's text. -/
namespace Go.Proofs.YtbjokgnnklcbcaaGreatDoor
open Go.RowKit
theorem ret_st {a b : ByteArray} (h : a = b) : Ending.returned (.string a) = .returned (.string b) := by rw [h]
theorem PowS.lt {w : World} (h : PowS w) : 1 < w.heap.size := by
 unfold PowS Go.Lib.TabIs World.var? at h
 rw [show Tryz.prog.globalNamed "internal/strconv.uint64pow10" = some 1 from by kernel_rfl] at h
 simp only [Option.bind_some] at h
 rcases Nat.lt_or_ge 1 w.heap.size with h1 | h1
 ·exact h1
 ·rw [Array.getElem?_eq_none h1] at h
  cases h
theorem PowS.belowR {w w' : World} {B : Nat} (h : PowS w) (hb : Below B w w') (hB : w.heap.size ≤ B) : PowS w' := h.below (hb.mono hB) h.lt
theorem endTx_eq (n : Net) {i : Nat} (hi : i < n.sw.length) (p : Int) : (⟨#[32]⟩ : ByteArray) ++ n.sw[i] ++ ⟨#[58]⟩ ++ ⟨(Go.Lib.itoa p).toArray⟩ = ⟨(endTx n ((i : Int), p)).toArray⟩ := by
 apply Go.WideShapes.bytes_inj
 simp [endTx, ByteArray.data_append, List.getD_eq_getElem?_getD, hi]
theorem itoa_le3 (p : Int) (h0 : 0 ≤ p) (h1 : p ≤ 511) : (Go.Lib.itoa p).length ≤ 3 := by
 have e : Go.Lib.itoa p = dig3 p.toNat := by unfold Go.Lib.itoa; rw [if_neg (by omega), dec_dig3 (by omega)]
 rw [e]
 unfold dig3
 split
 ·simp
 ·split <;> simp
set_option maxRecDepth 100000 in
set_option maxHeartbeats 4000000 in
theorem tend13 (n : Net) (A1 A2 A3 : Option Addr) (c1 : Nat) (g i : Nat) (p : Int) (w : World) (hN : NetS w w.heap.size A1 A2 A3 n) (hg : g < w.heap.size) (x0 : w.cell? ⟨g, 0, none⟩ = some (.slice A1 n.sw.length c1)) (hi : i < n.sw.length) (hs : n.sw[i].size ≤ 40) (hp0 : 0 ≤ p) (hp1 : p ≤ 511) (hP : PowS w) :
  Calls Tryz.prog 35 #[.agg #[.int .i64 (i : Int), .int .i64 p], .pointer (some ⟨g, 0, none⟩)] w fun e w' => e = .returned (.string ⟨(endTx n ((i : Int), p)).toArray⟩) ∧ Below w.heap.size w w' := by
 obtain ⟨wa, hwa, hsa, hba, hca, -⟩ := box1 w #[.int .i64 (i : Int), .int .i64 p] 41
 have e0 := hca 0
 have e1 := hca 1
 simp at e0 e1
 obtain ⟨b, o, rfl, hb, hcell, -⟩ := hN.1.str hi
 have kk := bcell' hba
 replace x0 := (kk.1 _ 0 hg).trans x0
 replace hcell := (kk.1 _ _ hb).trans hcell
 have hI := hide (fun d os => itoa13 p (Go.Sort.grow (redrawn wa d) os) hp0 hp1 ((hP.belowR hba (Nat.le_refl _)).belowR (below_regrown wa d os) (Nat.le_refl _)))
 have hfin := hide hba
 have hiz : (i : Int) < (n.sw.length : Int) := by omega
 have hi0 : (0 : Int) ≤ (i : Int) := by omega
 have hv := hide (endTx_eq n hi p)
 have hil : (⟨(Go.Lib.itoa p).toArray⟩ : ByteArray).size ≤ 3 := itoa_le3 p hp0 hp1
 generalize n.sw[i] = S at hcell hs hv
 generalize (⟨(Go.Lib.itoa p).toArray⟩ : ByteArray) = D at hI hv hil
 generalize n.sw.length = L at x0 hiz
 have hgw : g < wa.heap.size := by omega
 have hbw : b < wa.heap.size := by omega
 have hlw : w.heap.size < wa.heap.size := by omega
 have hgc := gcell wa
 replace hsa := hide hsa
 have hsz : S.size ≤ 9223372036854775807 := by omega
 clear hca kk hba hN hP hg hb hi
 go_enter Tryz.func35, Tryz.ntmps35
 go_wp2_with fail
 refine wp_region_quiet_below (by kernel_rfl) (by kernel_rfl) ?_
 repeat (any_goals (first | go_big_quiet_step ((go_at_call 34; with_reducible exact Calls.regrown_of (hI.out _ _))) | quiet_step ((go_at_call 34; with_reducible exact Calls.regrown_of (hI.out _ _)))))
 refine wpQuiet_nil ?_
 intro w1 hw1
 replace hw1 := below_of_regrown hw1
 go_wp2
 go_ret
 exact ⟨ret_st hv.out, hfin.out.trans (hw1.mono hfin.out.size)⟩
end Go.Proofs.YtbjokgnnklcbcaaGreatDoor

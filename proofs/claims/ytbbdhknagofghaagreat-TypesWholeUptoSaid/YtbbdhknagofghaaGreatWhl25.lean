import Derived.Test.YtbbdhknagofghaaGreatWhl07
import Derived.Deep.WholeRow
import Derived.Laws.ResultCell
import Derived.Laws.CopyOwn
import Derived.Lib.Walk
import Derived.Test.YtbbdhknagofghaaGreatWhl02
import Derived.Test.YtbbdhknagofghaaGreatWhl16
set_option linter.all false
/-! The document's numbers (quillonref01): bits of a number. -/
namespace Go.Proofs.YtbbdhknagofghaaGreat
open Go.RowKit
/-- A whole row out of memory, into memory: kept from being opened. -/
def LoadG (v : Value) : Sem Value := Instr.loadAt 203 v
theorem load_eq (v : Value) : Instr.loadAt 203 v = LoadG v := rfl
def StoreG (v u : Value) : Sem Unit := Instr.storeAt 203 v u
theorem store_eq (v u : Value) : Instr.storeAt 203 v u = StoreG v u := rfl
attribute [local go_sem ↓] load_eq store_eq
end Go.Proofs.YtbbdhknagofghaaGreat
/-! Plain: what is wrong with a number, an expression that goes, a statement. -/
namespace Go.Proofs.YtbbdhknagofghaaGreat
def litR (l : Lt) (w : Int) : Rs Unit := if l.1 = 0 ∨ l.1 = w then (if l.1 = 0 then (if fitsB w l then .ok () else .error 5) else .ok ()) else .error 10
def goesR (p : Pg) (act : Int) (e : Ex) (w : Int) : Rs Unit := match ofR p act e with
 | .error n => .error n
 | .ok t => if t.truth then .error 9 else if t.free then (if fitsE w e then .ok () else .error 5) else if t.w = w then .ok () else .error 10
def fieldW (l : List Fd) (i : Int) : Int := (l[i.toNat]?).elim 0 Prod.snd
/-- The width of what a statement sets. -/
def setW (p : Pg) (head name : ByteArray) : Int := if head = strE then fieldW p.metas (metaI p name) else fieldW ((p.headers[(headerI p head).toNat]?).elim [] Hd.fields) (fieldI p (headerI p head) name)
def stR (p : Pg) (act : Int) : St → Rs Unit
 | .mk kind head name e _ _ =>
  if kind = 1 then goesR p act e (setW p head name)
  else if kind = 2 then (match ofR p act e with
   | .error n => .error n
   | .ok t => if t.truth then .ok () else .error 9)
  else if kind = 5 then (match ofR p act e with
   | .error n => .error n
   | .ok t => if t.truth then .error 9 else if t.free then (if fitsE 9 e then .ok () else .error 5) else .ok ())
  else .ok ()
end Go.Proofs.YtbbdhknagofghaaGreat
/-! Layer 8: lit, goes. -/
namespace Go.Proofs.YtbbdhknagofghaaGreat
open Go.RowKit
set_option maxRecDepth 100000 in
set_option maxHeartbeats 4000000 in
theorem tlit_any (l : Lt) (n : Nat) (h1 : 1 ≤ n) (h2 : n ≤ 128) (hl : okLt l) (w : World) :
  Calls Tryz.prog 36 #[.agg #[.int .i64 l.1, .int .u64 l.2.1, .int .u64 l.2.2], .int .i64 (n : Int)] w fun e w' => e = endU (litR l n) ∧ Below w.heap.size w w' := by
 obtain ⟨wb, hwb, hsb, hbb, hcb, -⟩ := box1 w #[.int .i64 l.1, .int .u64 l.2.1, .int .u64 l.2.2] 42
 obtain ⟨y0, y1, y2⟩ := row3 hcb
 have hw := hide hbb
 have hl1 : w.heap.size < wb.heap.size := by omega
 have hF := hide (nfits_any l n wb hl h1 h2)
 have hv := hide (show litR l n = if l.1 = 0 ∨ l.1 = n then (if l.1 = 0 then (if fitsB n l then .ok () else .error 5) else .ok ()) else .error 10 from rfl)
 generalize litR l n = r at hv
 generalize fitsB n l = fb at hF hv
 obtain ⟨lw, lh, ll⟩ := l
 simp only at *
 clear hcb hbb hl
 replace hsb := hide hsb
 by_cases h0 : lw = 0
 ·replace hv := hide (show r = (if fb = true then .ok () else .error 5) from hv.out.trans (by rw [if_pos (Or.inl h0), if_pos h0]))
  subst h0
  cases fb with
  | true =>
   go_enter Tryz.func36, Tryz.ntmps36
   go_wp2_with (first | (go_at_call 95; refine hF.out.mono ?_; rintro e w1 ⟨rfl, hb1⟩) | (go_at_call 27; refine (ask_yes _ _).mono ?_; rintro e w' ⟨rfl, rfl⟩))
   go_end0
   exact ⟨by rw [hv.out]; rfl, hw.out.trans (hb1.mono (by omega))⟩
  | false =>
   go_enter Tryz.func36, Tryz.ntmps36
   go_wp2_with (first | (go_at_call 95; refine hF.out.mono ?_; rintro e w1 ⟨rfl, hb1⟩) | (go_at_call 27; first | (with_reducible refine (ask_yes _ _).mono ?_; rintro e w' ⟨rfl, rfl⟩) | (with_reducible refine (ask_no _ _).mono ?_; rintro e w' ⟨rfl, rfl⟩)))
   exact ⟨rfl, by rw [hv.out]; rfl, hw.out.trans (hb1.mono (by omega))⟩
 ·have h0q : (lw == 0) = false := beq_eq_false_iff_ne.2 h0
  have h0n : (lw != 0) = true := bne_iff_ne.2 h0
  by_cases hn : lw = (n : Int)
  ·replace hv := hide (show r = .ok () from hv.out.trans (by rw [if_pos (Or.inr hn), if_neg h0]))
   have hnq : (lw == (n : Int)) = true := beq_iff_eq.2 hn
   clear hn
   go_enter Tryz.func36, Tryz.ntmps36
   go_wp2_with (go_at_call 27; refine (ask_yes _ _).mono ?_; rintro e w' ⟨rfl, rfl⟩)
   go_end0
   exact ⟨by rw [hv.out]; rfl, hw.out⟩
  ·replace hv := hide (show r = .error 10 from hv.out.trans (by rw [if_neg (fun h => h.elim h0 hn)]))
   have hnq : (lw == (n : Int)) = false := beq_eq_false_iff_ne.2 hn
   go_enter Tryz.func36, Tryz.ntmps36
   go_wp2_with (go_at_call 27; refine (ask_no _ _).mono ?_; rintro e w' ⟨rfl, rfl⟩)
   exact ⟨rfl, by rw [hv.out]; rfl, hw.out⟩
end Go.Proofs.YtbbdhknagofghaaGreat
/-! Printed by gen_typj.py. Layer 8: goes. -/
namespace Go.Proofs.YtbbdhknagofghaaGreat
open Go.RowKit
set_option maxRecDepth 100000 in
set_option maxHeartbeats 8000000 in
theorem tgoes_any (A1 A2 A3 A4 A5 A6 A7 : Option Addr) (p : Pg) (c1 c2 c3 c4 c5 c6 c7 : Nat) (act : Int) (B : Nat) (hm : mayP p = true) (e : Ex) (he : allE e = true) (n : Nat) (h1 : 1 ≤ n) (h2 : n ≤ 128) (cs : List Value) (w : World) (hB : B ≤ w.heap.size) (hP : PgS w B A1 A2 A3 A4 A5 A6 A7 p) (h : rEx w B cs e) :
  Calls Tryz.prog 96 #[.agg #[.slice A1 p.headers.length c1, .slice A2 p.metas.length c2, .slice A3 p.states.length c3, .slice A4 p.actions.length c4, .slice A5 p.tables.length c5, .slice A6 p.control.length c6, .slice A7 p.emit.length c7, .int .i64 act], .agg cs.toArray, .int .i64 (n : Int)] w fun r w' => r = endU (goesR p act e n) ∧ Below w.heap.size w w' := by
 have hX0 := hide (fun (W : World) (hb : Below w.heap.size w W) => tof_any A1 A2 A3 A4 A5 A6 A7 p c1 c2 c3 c4 c5 c6 c7 act B hm e he cs W (Nat.le_trans hB hb.size) (hP.below (hb.mono hB)) (sta_ex.keep h fun q hq => (hb.mono hB).cell hq))
 have hF0 := hide (fun (W : World) (hb : Below w.heap.size w W) => tfits_any n h1 h2 e cs W B (Nat.le_trans hB hb.size) (sta_ex.keep h fun q hq => (hb.mono hB).cell hq))
 have hv0 := hide (show goesR p act e n = (match ofR p act e with | .error n => .error n | .ok t => if t.truth then .error 9 else if t.free then (if fitsE n e then .ok () else .error 5) else if t.w = n then .ok () else .error 10) from rfl)
 generalize goesR p act e n = r at hv0
 generalize ofR p act e = ra at hX0 hv0
 generalize fitsE n e = fe at hF0 hv0
 obtain ⟨op, lit, head, name, hi, lo, args⟩ := e
 obtain ⟨A, cap, rfl, -, -, -, -, -, -, hs⟩ := RE.inv h
 have hl := hs.len
 clear h hs he
 show Calls _ _ #[.agg #[.slice A1 p.headers.length c1, .slice A2 p.metas.length c2, .slice A3 p.states.length c3, .slice A4 p.actions.length c4, .slice A5 p.tables.length c5, .slice A6 p.control.length c6, .slice A7 p.emit.length c7, .int .i64 act], .agg #[.int .u8 op, .int .i64 lit.1, .int .u64 lit.2.1, .int .u64 lit.2.2, .string head, .string name, .int .i64 hi, .int .i64 lo, .slice A args.length cap], _] _ _
 obtain ⟨wv, hwv, hsv, hbv, hcv, hfv⟩ := box1 w #[.slice A1 p.headers.length c1, .slice A2 p.metas.length c2, .slice A3 p.states.length c3, .slice A4 p.actions.length c4, .slice A5 p.tables.length c5, .slice A6 p.control.length c6, .slice A7 p.emit.length c7, .int .i64 act] 88
 obtain ⟨wz, hwz, hsz, hbz, hcz, hfz⟩ := box1 wv #[.int .u8 op, .int .i64 lit.1, .int .u64 lit.2.1, .int .u64 lit.2.2, .string head, .string name, .int .i64 hi, .int .i64 lo, .slice A args.length cap] 45
 have hEz : Below wz.heap.size wz wz := Below.refl _ _
 have hEv : Below wv.heap.size wv wz := hbz.trans (hEz.mono (by omega))
 have hw := hide (hbv.trans (hEv.mono (by omega)))
 have cv := fun i => (hEv.cell (p := ⟨w.heap.size, i, none⟩) (by show w.heap.size < _; omega)).trans (hcv i)
 have cz := fun i => (hEz.cell (p := ⟨wv.heap.size, i, none⟩) (by show wv.heap.size < _; omega)).trans (hcz i)
 have hfr := hfz
 simp only [hsv] at cz hfr
 obtain ⟨v0, v1, v2, v3, v4, v5, v6, v7⟩ := row8 cv
 obtain ⟨z0, z1, z2, z3, z4, z5, z6, z7, z8⟩ := row9 cz
 have hl1 : w.heap.size < wz.heap.size := by omega
 have hl2 : w.heap.size + 1 < wz.heap.size := by omega
 clear cv hcv hbv hfv cz hcz hbz hfz hEv hEz
 replace hsz := hide hsz
 have hX := hide (show Calls Tryz.prog 29 #[.agg #[.slice A1 p.headers.length c1, .slice A2 p.metas.length c2, .slice A3 p.states.length c3, .slice A4 p.actions.length c4, .slice A5 p.tables.length c5, .slice A6 p.control.length c6, .slice A7 p.emit.length c7, .int .i64 act], .agg #[.int .u8 op, .int .i64 lit.1, .int .u64 lit.2.1, .int .u64 lit.2.2, .string head, .string name, .int .i64 hi, .int .i64 lo, .slice A args.length cap]] wz _ from hX0.out wz hw.out)
 have hF : Hid (∀ W, Below w.heap.size w W → Calls Tryz.prog 97 #[.agg #[.int .u8 op, .int .i64 lit.1, .int .u64 lit.2.1, .int .u64 lit.2.2, .string head, .string name, .int .i64 hi, .int .i64 lo, .slice A args.length cap], .int .i64 (n : Int)] W _) := hF0
 clear hX0 hF0 hP
 cases ra with
 | error n7 =>
  replace hX := hide (show Calls Tryz.prog _ _ wz fun e w' => e = noE n7 ∧ Below wz.heap.size wz w' from hX.out)
  go_enter Tryz.func96, Tryz.ntmps96
  go_wp2_with (go_at_call 29; refine hX.out.mono ?_; rintro e w3 ⟨rfl, hb3⟩)
  exact ⟨rfl, by rw [hv0.out]; rfl, hw.out.trans (hb3.mono (by omega))⟩
 | ok t =>
  obtain ⟨tw, tr, tf⟩ := t
  replace hX := hide (show Calls Tryz.prog _ _ wz fun e w' => e = .returned (.agg #[.int .i64 tw, .bool tr, .bool tf]) ∧ Below wz.heap.size wz w' from hX.out)
  have hv := hide (show r = if tr then .error 9 else if tf then (if fe then .ok () else .error 5) else if tw = n then .ok () else .error 10 from hv0.out)
  clear hv0
  cases tr with
  | true =>
   go_enter Tryz.func96, Tryz.ntmps96
   go_wp2_with (first | (go_at_call 27; with_reducible refine (ask_no _ _).mono ?_; rintro e w' ⟨rfl, rfl⟩) | (go_at_call 29; refine hX.out.mono ?_; rintro e w3 ⟨rfl, hb3⟩; have kb3 := bcell' hb3; have q3 := Nat.lt_of_lt_of_le hl1 hb3.size; have q4 := Nat.lt_of_lt_of_le hl2 hb3.size))
   exact ⟨rfl, by rw [hv.out]; rfl, hw.out.trans ((hb3.alloc hb3.size _).mono (by omega))⟩
  | false =>
   cases tf with
   | true =>
    cases fe with
    | true =>
     go_enter Tryz.func96, Tryz.ntmps96
     go_wp2_with (first | (go_at_call 27; with_reducible refine (ask_yes _ _).mono ?_; rintro e w' ⟨rfl, rfl⟩) | (go_at_call 97; refine (hF.out _ (hw.out.trans ((hb3.alloc hb3.size _).mono (by omega)))).mono ?_; rintro e w6 ⟨rfl, hb6⟩) | (go_at_call 29; refine hX.out.mono ?_; rintro e w3 ⟨rfl, hb3⟩; have kb3 := bcell' hb3; have q3 := Nat.lt_of_lt_of_le hl1 hb3.size; have q4 := Nat.lt_of_lt_of_le hl2 hb3.size))
     (try simp only [Exit.inBlock, Exit.then])
     refine bodyPost_ret (results_none rfl _ _ _) rfl ?_
     exact ⟨by rw [hv.out]; rfl, hw.out.trans (((hb3.alloc hb3.size _).trans (hb6.mono (hb3.alloc hb3.size _).size)).mono (by omega))⟩
    | false =>
     go_enter Tryz.func96, Tryz.ntmps96
     go_wp2_with (first | (go_at_call 27; first | (with_reducible refine (ask_yes _ _).mono ?_; rintro e w' ⟨rfl, rfl⟩) | (with_reducible refine (ask_no _ _).mono ?_; rintro e w' ⟨rfl, rfl⟩)) | (go_at_call 97; refine (hF.out _ (hw.out.trans ((hb3.alloc hb3.size _).mono (by omega)))).mono ?_; rintro e w6 ⟨rfl, hb6⟩) | (go_at_call 29; refine hX.out.mono ?_; rintro e w3 ⟨rfl, hb3⟩; have kb3 := bcell' hb3; have q3 := Nat.lt_of_lt_of_le hl1 hb3.size; have q4 := Nat.lt_of_lt_of_le hl2 hb3.size))
     exact ⟨rfl, by rw [hv.out]; rfl, hw.out.trans (((hb3.alloc hb3.size _).trans (hb6.mono (hb3.alloc hb3.size _).size)).mono (by omega))⟩
   | false =>
    by_cases hn : tw = (n : Int)
    ·have hnq : (tw == (n : Int)) = true := beq_iff_eq.2 hn
     have hv2 := hide (show r = .ok () from hv.out.trans (if_pos hn))
     clear hn
     go_enter Tryz.func96, Tryz.ntmps96
     go_wp2_with (first | (go_at_call 27; with_reducible refine (ask_yes _ _).mono ?_; rintro e w' ⟨rfl, rfl⟩) | (go_at_call 29; refine hX.out.mono ?_; rintro e w3 ⟨rfl, hb3⟩; have kb3 := bcell' hb3; have q3 := Nat.lt_of_lt_of_le hl1 hb3.size; have q4 := Nat.lt_of_lt_of_le hl2 hb3.size))
     go_end0
     exact ⟨by rw [hv2.out]; rfl, hw.out.trans ((hb3.alloc hb3.size _).mono (by omega))⟩
    ·have hnq : (tw == (n : Int)) = false := beq_eq_false_iff_ne.2 hn
     have hv2 := hide (show r = .error 10 from hv.out.trans (if_neg hn))
     go_enter Tryz.func96, Tryz.ntmps96
     go_wp2_with (first | (go_at_call 27; first | (with_reducible refine (ask_yes _ _).mono ?_; rintro e w' ⟨rfl, rfl⟩) | (with_reducible refine (ask_no _ _).mono ?_; rintro e w' ⟨rfl, rfl⟩)) | (go_at_call 29; refine hX.out.mono ?_; rintro e w3 ⟨rfl, hb3⟩; have kb3 := bcell' hb3; have q3 := Nat.lt_of_lt_of_le hl1 hb3.size; have q4 := Nat.lt_of_lt_of_le hl2 hb3.size))
     exact ⟨rfl, by rw [hv2.out]; rfl, hw.out.trans ((hb3.alloc hb3.size _).mono (by omega))⟩
end Go.Proofs.YtbbdhknagofghaaGreat

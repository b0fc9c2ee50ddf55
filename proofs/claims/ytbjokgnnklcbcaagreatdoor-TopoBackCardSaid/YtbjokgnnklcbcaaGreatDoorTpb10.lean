import Derived.Test.YtbjokgnnklcbcaaGreatDoorTpb09
set_option linter.all false
/-! Lowered programs, how they lie in memory. -/
namespace Go.Proofs.YtbjokgnnklcbcaaGreatDoor
open Go.RowKit
def ndC (n : Nd) : List Value := [.int .u8 n.op, .int .i64 n.w, .int .i64 n.a, .int .i64 n.b, .int .u64 n.hi, .int .u64 n.lo]
def rNd : CR Nd := fun _ _ cs n => cs = ndC n ∧ u8 n.op ∧ u64 n.hi ∧ u64 n.lo
theorem sta_nd : Sta rNd := ⟨fun h _ => h, fun h _ => h⟩
def rIns : CR Ins := fun w B cs x => ∃ A cap, cs = [.int .u8 x.kind, .int .i64 x.a, .int .i64 x.b, .slice A x.e.length cap, .int .i64 x.to] ∧ Sl 6 rNd w B A x.e
theorem sta_ins : Sta rIns := ⟨fun ⟨A, cap, e, h⟩ hk => ⟨A, cap, e, h.keep sta_nd hk⟩, fun ⟨A, cap, e, h⟩ hB => ⟨A, cap, e, h.more sta_nd hB⟩⟩
def rPt : CR Pt := fun _ _ cs x => cs = [.int .u64 x.vh, .int .u64 x.vl, .int .u64 x.mh, .int .u64 x.ml] ∧ u64 x.vh ∧ u64 x.vl ∧ u64 x.mh ∧ u64 x.ml
theorem sta_pt : Sta rPt := ⟨fun h _ => h, fun h _ => h⟩
def rBr : CR Br := fun w B cs x => ∃ A cap, cs = [.slice A x.pats.length cap, .int .i64 x.to] ∧ Sl 4 rPt w B A x.pats
theorem sta_br : Sta rBr := ⟨fun ⟨A, cap, e, h⟩ hk => ⟨A, cap, e, h.keep sta_pt hk⟩, fun ⟨A, cap, e, h⟩ hB => ⟨A, cap, e, h.more sta_pt hB⟩⟩
def rCd : CR (List Nd) := rSl 6 rNd
theorem sta_cd : Sta rCd := sta_sl sta_nd
def rStp : CR Stp := fun w B cs x => ∃ A1 A2 A3 c1 c2 c3, cs = [.slice A1 x.takes.length c1, .slice A2 x.keys.length c2, .slice A3 x.brs.length c3, .int .i64 x.to] ∧ Sl 1 rInt w B A1 x.takes ∧ Sl 1 rCd w B A2 x.keys ∧ Sl 2 rBr w B A3 x.brs ∧ x.keys.length ≤ sm
theorem sta_stp : Sta rStp := ⟨fun ⟨A1, A2, A3, c1, c2, c3, e, h1, h2, h3, h4⟩ hk => ⟨A1, A2, A3, c1, c2, c3, e, h1.keep sta_int hk, h2.keep sta_cd hk, h3.keep sta_br hk, h4⟩, fun ⟨A1, A2, A3, c1, c2, c3, e, h1, h2, h3, h4⟩ hB => ⟨A1, A2, A3, c1, c2, c3, e, h1.more sta_int hB, h2.more sta_cd hB, h3.more sta_br hB, h4⟩⟩
def rLac : CR Lac := fun w B cs x => ∃ A1 A2 c1 c2, cs = [.slice A1 x.params.length c1, .slice A2 x.body.length c2] ∧ Sl 1 rInt w B A1 x.params ∧ Sl 5 rIns w B A2 x.body
theorem sta_lac : Sta rLac := ⟨fun ⟨A1, A2, c1, c2, e, h1, h2⟩ hk => ⟨A1, A2, c1, c2, e, h1.keep sta_int hk, h2.keep sta_ins hk⟩, fun ⟨A1, A2, c1, c2, e, h1, h2⟩ hB => ⟨A1, A2, c1, c2, e, h1.more sta_int hB, h2.more sta_ins hB⟩⟩
def rNu : CR (Int × Int) := fun _ _ cs x => cs = [.int .u64 x.1, .int .u64 x.2] ∧ u64 x.1 ∧ u64 x.2
theorem sta_nu : Sta rNu := ⟨fun h _ => h, fun h _ => h⟩
def rU8 : CR Int := fun _ _ cs x => cs = [.int .u8 x]
theorem sta_u8 : Sta rU8 := ⟨fun h _ => h, fun h _ => h⟩
def rLtb : CR Ltb := fun w B cs x => ∃ A1 A2 A3 A4 c1 c2 c3 c4, cs = [.slice A1 x.keys.length c1, .slice A2 x.kinds.length c2, .slice A3 x.acts.length c3, .int .i64 x.run.act, .slice A4 x.run.args.length c4] ∧ Sl 1 rCd w B A1 x.keys ∧ Sl 1 rU8 w B A2 x.kinds ∧ Sl 1 rInt w B A3 x.acts ∧ Sl 2 rNu w B A4 x.run.args ∧ x.keys.length ≤ sm ∧ x.acts.length ≤ c3
theorem sta_ltb : Sta rLtb := ⟨fun ⟨A1, A2, A3, A4, c1, c2, c3, c4, e, h1, h2, h3, h4, h5⟩ hk => ⟨A1, A2, A3, A4, c1, c2, c3, c4, e, h1.keep sta_cd hk, h2.keep sta_u8 hk, h3.keep sta_int hk, h4.keep sta_nu hk, h5⟩, fun ⟨A1, A2, A3, A4, c1, c2, c3, c4, e, h1, h2, h3, h4, h5⟩ hB => ⟨A1, A2, A3, A4, c1, c2, c3, c4, e, h1.more sta_cd hB, h2.more sta_u8 hB, h3.more sta_int hB, h4.more sta_nu hB, h5⟩⟩
/-- A lowered program's twelve slices. -/
structure LpS (w : World) (B : Nat) (A1 A2 A3 A4 A5 A6 A7 A8 A9 A10 A11 A12 : Option Addr) (p : Lp) : Prop where
 heads : Sl 1 (rSl 1 rInt) w B A1 p.heads
 metas : Sl 1 rInt w B A2 p.metas
 steps : Sl 4 rStp w B A3 p.steps
 acts : Sl 2 rLac w B A4 p.acts
 tabs : Sl 5 rLtb w B A5 p.tabs
 control : Sl 5 rIns w B A6 p.control
 emit : Sl 1 rInt w B A7 p.emit
 nh : Sl 1 rStr w B A8 p.nh
 nf : Sl 1 (rSl 1 rStr) w B A9 p.nf
 nm : Sl 1 rStr w B A10 p.nm
 na : Sl 1 rStr w B A11 p.na
 nt : Sl 1 rStr w B A12 p.nt
theorem LpS.keep {w w' : World} {B : Nat} {A1 A2 A3 A4 A5 A6 A7 A8 A9 A10 A11 A12 : Option Addr} {p : Lp} (h : LpS w B A1 A2 A3 A4 A5 A6 A7 A8 A9 A10 A11 A12 p) (hk : ∀ a : Addr, a.block < B → w'.cell? a = w.cell? a) : LpS w' B A1 A2 A3 A4 A5 A6 A7 A8 A9 A10 A11 A12 p :=
 ⟨h.heads.keep (sta_sl sta_int) hk, h.metas.keep sta_int hk, h.steps.keep sta_stp hk, h.acts.keep sta_lac hk, h.tabs.keep sta_ltb hk, h.control.keep sta_ins hk, h.emit.keep sta_int hk, h.nh.keep sta_str hk, h.nf.keep (sta_sl sta_str) hk, h.nm.keep sta_str hk, h.na.keep sta_str hk, h.nt.keep sta_str hk⟩
theorem LpS.more {w : World} {B B' : Nat} {A1 A2 A3 A4 A5 A6 A7 A8 A9 A10 A11 A12 : Option Addr} {p : Lp} (h : LpS w B A1 A2 A3 A4 A5 A6 A7 A8 A9 A10 A11 A12 p) (hB : B ≤ B') : LpS w B' A1 A2 A3 A4 A5 A6 A7 A8 A9 A10 A11 A12 p :=
 ⟨h.heads.more (sta_sl sta_int) hB, h.metas.more sta_int hB, h.steps.more sta_stp hB, h.acts.more sta_lac hB, h.tabs.more sta_ltb hB, h.control.more sta_ins hB, h.emit.more sta_int hB, h.nh.more sta_str hB, h.nf.more (sta_sl sta_str) hB, h.nm.more sta_str hB, h.na.more sta_str hB, h.nt.more sta_str hB⟩
theorem LpS.below {w w' : World} {B : Nat} {A1 A2 A3 A4 A5 A6 A7 A8 A9 A10 A11 A12 : Option Addr} {p : Lp} (h : LpS w B A1 A2 A3 A4 A5 A6 A7 A8 A9 A10 A11 A12 p) (hb : Below B w w') : LpS w' B A1 A2 A3 A4 A5 A6 A7 A8 A9 A10 A11 A12 p := h.keep fun _ hp => hb.cell hp
end Go.Proofs.YtbjokgnnklcbcaaGreatDoor

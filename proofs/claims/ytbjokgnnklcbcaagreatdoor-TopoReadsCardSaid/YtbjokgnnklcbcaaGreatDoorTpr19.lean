import Derived.Test.YtbjokgnnklcbcaaGreatDoorTpr02
set_option linter.all false
/-! Plain: what the document's reader of a network does, step by step; it answers as the other one. -/
namespace Go.Proofs.YtbjokgnnklcbcaaGreatDoor
open Go.Lib
/-- A reader: the tokens that are left, the network so far, a fault. -/
structure Rf where
 l : List Tk
 n : Net
 bad : Option (Int × Nat)
abbrev tk9 : Tk := ⟨9, [], 0, 0, 0⟩
def nowF (r : Rf) : Tk := if r.bad.isSome then tk9 else headT r.l
def failF (so : Bool) (t : Tk) (e : Int) (r : Rf) : Rf := if !so && !r.bad.isSome then ⟨r.l, r.n, some (e, t.pl)⟩ else r
def takeF (r : Rf) : Rf := if !r.bad.isSome && (nowF r).kind != 0 then ⟨r.l.tail, r.n, r.bad⟩ else r
def hasF (s : List UInt8) (r : Rf) : Bool := ((nowF r).kind == 1 || (nowF r).kind == 3) && (nowF r).s == s
def wantF (s : List UInt8) (r : Rf) : Rf := failF (hasF s r) (nowF r) 4 (takeF r)
def nameF (r : Rf) : Tk × Rf := (nowF r, failF (nmT (nowF r)) (nowF r) 4 (takeF r))
def portF (r : Rf) : Tk × Int × Rf :=
 let t := nowF r
 let r3 := failF (decide (1 ≤ t.n ∧ t.n ≤ 511)) t 5 (failF (t.w == 0) t 10 (failF (t.kind == 2) t 4 (takeF r)))
 (t, if r3.bad.isSome then 0 else (t.n : Int), r3)
/-- One round of ports. -/
def port1F (out : List Int) (r : Rf) : List Int × Rf :=
 let x := portF (failF (decide (out.length < 8) || (nowF r).kind != 2) (nowF r) 5 r)
 (out ++ [x.2.1], wantF bSemi (failF (!decide (x.2.1 ∈ out)) x.1 8 x.2.2))
def portsF : Nat → List Int → Rf → List Int × Rf
 | 0, out, r => (out, r)
 | f + 1, out, r => if !r.bad.isSome && !hasF bShut r then portsF f (port1F out r).1 (port1F out r).2 else (out, r)
def prtsF (r : Rf) : List Int × Rf :=
 let x := portsF (wantF bOpen r).l.length [] (wantF bOpen r)
 (sortP x.1, wantF bShut x.2)
def endF (r : Rf) : Tk × (Int × Int) × Rf :=
 let s := nameF r
 let i := findI r.n.sw ⟨s.1.s.toArray⟩
 let x := portF (wantF bColon (failF (decide (0 ≤ i)) s.1 7 s.2))
 let e := (i, x.2.1)
 (x.1, e, failF (!(nextB r.n e).2.2) x.1 8 (failF (nextB r.n e).2.1 x.1 7 x.2.2))
def swF (r : Rf) : Rf :=
 let s := nameF (takeF (failF (decide (r.n.sw.length < 8)) (nowF r) 5 r))
 let x := prtsF (failF (decide (findI r.n.sw ⟨s.1.s.toArray⟩ < 0)) s.1 8 s.2)
 ⟨x.2.l, ⟨r.n.sw ++ [⟨s.1.s.toArray⟩], r.n.ports ++ [x.1], r.n.links⟩, x.2.bad⟩
def swsF : Nat → Rf → Rf
 | 0, r => r
 | f + 1, r => if hasF bSwitch r then swsF f (swF r) else r
def lnF (r : Rf) : Rf :=
 let a := endF (takeF r)
 let b := endF a.2.2
 let x := wantF bSemi (failF (!decide (a.2.1 = b.2.1)) b.1 8 b.2.2)
 ⟨x.l, ⟨x.n.sw, x.n.ports, x.n.links ++ [(a.2.1, b.2.1)]⟩, x.bad⟩
def lnsF : Nat → Rf → Rf
 | 0, r => r
 | f + 1, r => if hasF bLink r then lnsF f (lnF r) else r
def allF (l : List Tk) : Rf :=
 let r1 := swsF l.length ⟨l, emptyN, none⟩
 let r2 := lnsF r1.l.length r1
 failF ((nowF r2).kind == 0) (nowF r2) 4 r2
/-- A reader's answer. -/
def ansF (r : Rf) : Except (Int × Nat) Net := match r.bad with
 | some e => .error e
 | none => .ok r.n
/-- Behind a fault all stays the fault. -/
@[simp] theorem fail_some (so : Bool) (t : Tk) (e : Int) (l : List Tk) (n : Net) (b : Int × Nat) : failF so t e ⟨l, n, some b⟩ = ⟨l, n, some b⟩ := by simp [failF]
@[simp] theorem take_some (l : List Tk) (n : Net) (b : Int × Nat) : takeF ⟨l, n, some b⟩ = ⟨l, n, some b⟩ := by simp [takeF]
@[simp] theorem now_some (l : List Tk) (n : Net) (b : Int × Nat) : nowF ⟨l, n, some b⟩ = tk9 := by simp [nowF]
@[simp] theorem has_some (s : List UInt8) (l : List Tk) (n : Net) (b : Int × Nat) : hasF s ⟨l, n, some b⟩ = false := by simp [hasF]
@[simp] theorem want_some (s : List UInt8) (l : List Tk) (n : Net) (b : Int × Nat) : wantF s ⟨l, n, some b⟩ = ⟨l, n, some b⟩ := by simp [wantF]
@[simp] theorem port_some (l : List Tk) (n : Net) (b : Int × Nat) : portF ⟨l, n, some b⟩ = (tk9, 0, ⟨l, n, some b⟩) := by simp [portF]
@[simp] theorem name_some (l : List Tk) (n : Net) (b : Int × Nat) : nameF ⟨l, n, some b⟩ = (tk9, ⟨l, n, some b⟩) := by simp [nameF]
theorem ports_some (f : Nat) (out : List Int) (l : List Tk) (n : Net) (b : Int × Nat) : portsF f out ⟨l, n, some b⟩ = (out, ⟨l, n, some b⟩) := by cases f <;> simp [portsF]
theorem prts_some (l : List Tk) (n : Net) (b : Int × Nat) : (prtsF ⟨l, n, some b⟩).2 = ⟨l, n, some b⟩ := by simp [prtsF, ports_some]
theorem end_some (l : List Tk) (n : Net) (b : Int × Nat) : (endF ⟨l, n, some b⟩).2.2 = ⟨l, n, some b⟩ := by simp [endF]
theorem sws_some (f : Nat) (l : List Tk) (n : Net) (b : Int × Nat) : swsF f ⟨l, n, some b⟩ = ⟨l, n, some b⟩ := by cases f <;> simp [swsF]
theorem lns_some (f : Nat) (l : List Tk) (n : Net) (b : Int × Nat) : lnsF f ⟨l, n, some b⟩ = ⟨l, n, some b⟩ := by cases f <;> simp [lnsF]
/-- Where there is none yet, each step is the other one's. -/
theorem now_none (l : List Tk) (n : Net) : nowF ⟨l, n, none⟩ = headT l := by simp [nowF]
theorem take_none (l : List Tk) (n : Net) : takeF ⟨l, n, none⟩ = ⟨advT l, n, none⟩ := by
 unfold takeF advT
 rw [now_none]
 by_cases h : (headT l).kind = 0 <;> simp [h]
theorem has_none (s : List UInt8) (l : List Tk) (n : Net) : hasF s ⟨l, n, none⟩ = isT s l := by
 unfold hasF isT
 rw [now_none, Bool.and_comm, Bool.or_comm]
theorem fail_yes (t : Tk) (e : Int) (r : Rf) : failF true t e r = r := by simp [failF]
theorem fail_no (t : Tk) (e : Int) (l : List Tk) (n : Net) : failF false t e ⟨l, n, none⟩ = ⟨l, n, some (e, t.pl)⟩ := by simp [failF]
theorem want_none (s : List UInt8) (l : List Tk) (n : Net) : wantF s ⟨l, n, none⟩ = match wantT s l with
  | .ok l' => ⟨l', n, none⟩
  | .error e => ⟨advT l, n, some e⟩ := by
 unfold wantF wantT
 rw [has_none, now_none, take_none]
 cases isT s l with
 | true => simp [fail_yes]
 | false => simp [fail_no]
theorem name_none (l : List Tk) (n : Net) : nameF ⟨l, n, none⟩ = match nameT l with
  | .ok (_, l') => (headT l, ⟨l', n, none⟩)
  | .error e => (headT l, ⟨advT l, n, some e⟩) := by
 unfold nameF nameT
 rw [now_none, take_none]
 cases nmT (headT l) with
 | true => simp [fail_yes]
 | false => simp [fail_no]
theorem port_none (l : List Tk) (n : Net) : portF ⟨l, n, none⟩ = match portT l with
  | .ok (p, l') => (headT l, p, ⟨l', n, none⟩)
  | .error e => (headT l, 0, ⟨advT l, n, some e⟩) := by
 unfold portF portT
 simp only [now_none, take_none]
 by_cases h1 : (headT l).kind = 2
 ·by_cases h2 : (headT l).w = 0
  ·by_cases h3 : 1 ≤ (headT l).n ∧ (headT l).n ≤ 511
   ·have h4 : ¬ ((headT l).n < 1 ∨ 511 < (headT l).n) := by omega
    simp only [h1, h2, h3, h4, fail_yes, beq_self_eq_true, decide_true, and_self, ne_eq, not_true_eq_false, if_false, Option.isSome_none, Bool.false_eq_true]
   ·have h4 : (headT l).n < 1 ∨ 511 < (headT l).n := by omega
    simp only [h1, h2, h3, h4, fail_yes, fail_no, beq_self_eq_true, decide_false, ne_eq, not_true_eq_false, if_false, if_true, Option.isSome_some]
  ·have h2b : ((headT l).w == 0) = false := by simpa using h2
   simp only [h1, h2, h2b, fail_yes, fail_no, fail_some, beq_self_eq_true, ne_eq, not_true_eq_false, not_false_eq_true, if_false, if_true, Option.isSome_some]
 ·have h1b : ((headT l).kind == 2) = false := by simpa using h1
  simp only [h1, h1b, fail_yes, fail_no, fail_some, ne_eq, not_false_eq_true, if_true, Option.isSome_some]
theorem ports_none : ∀ (f : Nat) (out : List Int) (l : List Tk) (n : Net), match portsT f out l with
  | .ok (ps, l') => portsF f out ⟨l, n, none⟩ = (ps, ⟨l', n, none⟩)
  | .error e => ∃ ps l', portsF f out ⟨l, n, none⟩ = (ps, ⟨l', n, some e⟩)
 | 0, out, l, n => by simp [portsT, portsF]
 | f + 1, out, l, n => by
  unfold portsT portsF
  rw [has_none]
  cases hs : isT bShut l with
  | true => simp
  | false =>
   simp only [Bool.false_eq_true, if_false, Option.isSome_none, Bool.not_false, Bool.and_self, if_true]
   by_cases h1 : out.length < 8 ∨ (headT l).kind ≠ 2
   ·have h1b : (decide (out.length < 8) || (headT l).kind != 2) = true := by simpa using h1
    have e1 : failF (decide (out.length < 8) || (nowF ⟨l, n, none⟩).kind != 2) (nowF ⟨l, n, none⟩) 5 ⟨l, n, none⟩ = ⟨l, n, none⟩ := by rw [now_none, h1b, fail_yes]
    rw [if_neg (fun h => h h1)]
    simp only [port1F, e1, port_none]
    cases hp : portT l with
    | error e => exact ⟨_, _, (by simp only [fail_some, want_some, ports_some]; rfl)⟩
    | ok x =>
     obtain ⟨p, l1⟩ := x
     simp only
     by_cases hm : p ∈ out
     ·rw [if_pos hm]
      simp only [hm, decide_true, Bool.not_true, fail_no, want_some, ports_some]
      exact ⟨_, _, rfl⟩
     ·rw [if_neg hm]
      simp only [hm, decide_false, Bool.not_false, fail_yes, want_none]
      cases hw : wantT bSemi l1 with
      | error e => exact ⟨_, _, (by simp only [ports_some]; rfl)⟩
      | ok l2 => exact ports_none f (out ++ [p]) l2 n
   ·have h1b : (decide (out.length < 8) || (headT l).kind != 2) = false := by
     rw [Bool.eq_false_iff]; simpa using h1
    have e1 : failF (decide (out.length < 8) || (nowF ⟨l, n, none⟩).kind != 2) (nowF ⟨l, n, none⟩) 5 ⟨l, n, none⟩ = ⟨l, n, some (5, (headT l).pl)⟩ := by rw [now_none, h1b, fail_no]
    rw [if_pos h1]
    simp only [port1F, e1, port_some, fail_some, want_some, ports_some]
    exact ⟨_, _, rfl⟩
theorem prts_none (l : List Tk) (n : Net) : match prtsT l with
  | .ok (ps, l') => prtsF ⟨l, n, none⟩ = (ps, ⟨l', n, none⟩)
  | .error e => ∃ ps l', prtsF ⟨l, n, none⟩ = (ps, ⟨l', n, some e⟩) := by
 unfold prtsT prtsF
 simp only [want_none]
 cases hw : wantT bOpen l with
 | error e => exact ⟨_, _, (by simp only [ports_some, want_some]; rfl)⟩
 | ok l1 =>
  simp only
  have hp := ports_none l1.length [] l1 n
  cases hpt : portsT l1.length [] l1 with
  | error e =>
   rw [hpt] at hp
   obtain ⟨ps, l', hp⟩ := hp
   simp only [hp, want_some]
   exact ⟨_, _, rfl⟩
  | ok x =>
   obtain ⟨ps, l2⟩ := x
   rw [hpt] at hp
   simp only at hp
   simp only [hp, want_none]
   cases hw2 : wantT bShut l2 with
   | error e => exact ⟨_, _, rfl⟩
   | ok l3 => rfl
theorem findI_mem (l : List ByteArray) (a : ByteArray) : decide (0 ≤ findI l a) = decide (a ∈ l) := by
 unfold findI
 by_cases h : a ∈ l <;> simp [h]
theorem findI_notmem (l : List ByteArray) (a : ByteArray) : decide (findI l a < 0) = !decide (a ∈ l) := by
 unfold findI
 by_cases h : a ∈ l
 ·simp [h]
 ·simp [h]
theorem end_none (l : List Tk) (n : Net) : match endT n l with
  | .ok (pl, e, l') => ∃ t : Tk, t.pl = pl ∧ endF ⟨l, n, none⟩ = (t, e, ⟨l', n, none⟩)
  | .error x => ∃ t e l', endF ⟨l, n, none⟩ = (t, e, ⟨l', n, some x⟩) := by
 unfold endT endF
 simp only [name_none]
 cases hn : nameT l with
 | error e => exact ⟨_, _, _, (by simp only [fail_some, want_some, port_some]; rfl)⟩
 | ok x =>
  obtain ⟨s, l1⟩ := x
  have hs : s = (headT l).s := by
   unfold nameT at hn
   split at hn
   ·injection hn with hn; injection hn with hn _; exact hn.symm
   ·cases hn
  subst hs
  simp only
  rw [findI_mem]
  by_cases hm : (⟨(headT l).s.toArray⟩ : ByteArray) ∈ n.sw
  ·simp only [hm, decide_true, fail_yes, want_none, if_true]
   cases hw : wantT bColon l1 with
   | error e => exact ⟨_, _, _, (by simp only [fail_some, port_some]; rfl)⟩
   | ok l2 =>
    simp only [port_none]
    cases hp : portT l2 with
    | error e => exact ⟨_, _, _, (by simp only [fail_some]; rfl)⟩
    | ok x =>
     obtain ⟨p, l3⟩ := x
     simp only
     have ht : (nextB n (findI n.sw ⟨(headT l).s.toArray⟩, p)).2.1 = thereB n (findI n.sw ⟨(headT l).s.toArray⟩, p) := by
      unfold nextB
      cases thereB n (findI n.sw ⟨(headT l).s.toArray⟩, p) with
      | false => rfl
      | true =>
       simp only [if_true]
       cases nextL n.links (findI n.sw ⟨(headT l).s.toArray⟩, p) <;> rfl
     cases hth : thereB n (findI n.sw ⟨(headT l).s.toArray⟩, p) with
     | false =>
      rw [hth] at ht
      simp only [ht, fail_no, fail_some, if_true]
      exact ⟨_, _, _, rfl⟩
     | true =>
      rw [hth] at ht
      simp only [ht, fail_yes, Bool.true_eq_false, if_false]
      cases hl : (nextB n (findI n.sw ⟨(headT l).s.toArray⟩, p)).2.2 with
      | true => simp only [Bool.not_true, fail_no, if_true]; exact ⟨_, _, _, rfl⟩
      | false => simp only [Bool.not_false, fail_yes, Bool.false_eq_true, if_false]; exact ⟨_, rfl, rfl⟩
  ·simp only [hm, decide_false, fail_no, want_some, port_some, fail_some, if_false]
   exact ⟨_, _, _, rfl⟩
theorem sw_none (l : List Tk) (n : Net) (hk : (headT l).kind ≠ 0) : match swT n l with
  | .ok (n', l') => swF ⟨l, n, none⟩ = ⟨l', n', none⟩
  | .error x => ∃ l' n', swF ⟨l, n, none⟩ = ⟨l', n', some x⟩ := by
 unfold swT swF
 by_cases h8 : n.sw.length < 8
 ·rw [if_neg (fun h => h h8)]
  simp only [h8, decide_true, fail_yes, take_none, name_none]
  cases hn : nameT (advT l) with
  | error e => exact ⟨_, _, (by simp only [fail_some, prts_some]; rfl)⟩
  | ok x =>
   obtain ⟨s, l1⟩ := x
   have hs : s = (headT (advT l)).s := by
    unfold nameT at hn
    split at hn
    ·injection hn with hn; injection hn with hn _; exact hn.symm
    ·cases hn
   subst hs
   simp only
   rw [findI_notmem]
   by_cases hm : (⟨(headT (advT l)).s.toArray⟩ : ByteArray) ∈ n.sw
   ·simp only [hm, decide_true, Bool.not_true, fail_no, if_true, prts_some]
    exact ⟨_, _, rfl⟩
   ·simp only [hm, decide_false, Bool.not_false, fail_yes, if_false]
    have hp := prts_none l1 n
    cases hpt : prtsT l1 with
    | error e =>
     rw [hpt] at hp
     obtain ⟨ps, l', hp⟩ := hp
     simp only [hp]
     exact ⟨_, _, rfl⟩
    | ok x =>
     obtain ⟨ps, l2⟩ := x
     rw [hpt] at hp
     simp only at hp
     simp only [hp]
 ·rw [if_pos h8]
  simp only [h8, decide_false, now_none, fail_no, take_some, name_some, fail_some, prts_some]
  exact ⟨_, _, rfl⟩
theorem sws_none : ∀ (f : Nat) (l : List Tk) (n : Net), match swsT f n l with
  | .ok (n', l') => swsF f ⟨l, n, none⟩ = ⟨l', n', none⟩
  | .error x => ∃ l' n', swsF f ⟨l, n, none⟩ = ⟨l', n', some x⟩
 | 0, l, n => by simp [swsT, swsF]
 | f + 1, l, n => by
  unfold swsT swsF
  rw [has_none]
  cases hs : isT bSwitch l with
  | false => simp
  | true =>
   simp only [if_true]
   have h1 := sw_none l n (isT_kind hs)
   cases hsw : swT n l with
   | error e =>
    rw [hsw] at h1
    obtain ⟨l', n', h1⟩ := h1
    rw [h1]
    exact ⟨_, _, sws_some _ _ _ _⟩
   | ok x =>
    obtain ⟨n1, l1⟩ := x
    rw [hsw] at h1
    simp only at h1
    rw [h1]
    exact sws_none f l1 n1
theorem ln_none (l : List Tk) (n : Net) : match lnT n l with
  | .ok (n', l') => lnF ⟨l, n, none⟩ = ⟨l', n', none⟩
  | .error x => ∃ l' n', lnF ⟨l, n, none⟩ = ⟨l', n', some x⟩ := by
 unfold lnT lnF
 simp only [take_none]
 have h1 := end_none (advT l) n
 cases he1 : endT n (advT l) with
 | error e =>
  rw [he1] at h1
  obtain ⟨t, e', l', h1⟩ := h1
  simp only [h1, end_some, fail_some, want_some]
  exact ⟨_, _, rfl⟩
 | ok x =>
  obtain ⟨pl, a, l1⟩ := x
  rw [he1] at h1
  obtain ⟨t, -, h1⟩ := h1
  have h2 := end_none l1 n
  simp only [h1]
  cases he2 : endT n l1 with
  | error e =>
   rw [he2] at h2
   obtain ⟨t, e', l', h2⟩ := h2
   simp only [h2, fail_some, want_some]
   exact ⟨_, _, rfl⟩
  | ok x =>
   obtain ⟨pl2, b, l2⟩ := x
   rw [he2] at h2
   obtain ⟨t2, ht2, h2⟩ := h2
   simp only [h2]
   by_cases hab : a = b
   ·simp only [hab, decide_true, Bool.not_true, fail_no, want_some, if_true, ht2]
    exact ⟨_, _, rfl⟩
   ·simp only [hab, decide_false, Bool.not_false, fail_yes, want_none, if_false]
    cases hw : wantT bSemi l2 with
    | error e => exact ⟨_, _, rfl⟩
    | ok l3 => rfl
theorem lns_none : ∀ (f : Nat) (l : List Tk) (n : Net), match lnsT f n l with
  | .ok (n', l') => lnsF f ⟨l, n, none⟩ = ⟨l', n', none⟩
  | .error x => ∃ l' n', lnsF f ⟨l, n, none⟩ = ⟨l', n', some x⟩
 | 0, l, n => by simp [lnsT, lnsF]
 | f + 1, l, n => by
  unfold lnsT lnsF
  rw [has_none]
  cases hs : isT bLink l with
  | false => simp
  | true =>
   simp only [if_true]
   have h1 := ln_none l n
   cases hsw : lnT n l with
   | error e =>
    rw [hsw] at h1
    obtain ⟨l', n', h1⟩ := h1
    rw [h1]
    exact ⟨_, _, lns_some _ _ _ _⟩
   | ok x =>
    obtain ⟨n1, l1⟩ := x
    rw [hsw] at h1
    simp only at h1
    rw [h1]
    exact lns_none f l1 n1
/-- The document's reader answers as the other one. -/
theorem all_same (l : List Tk) : ansF (allF l) = allT l := by
 unfold allF allT
 have h1 := sws_none l.length l emptyN
 cases hs : swsT l.length emptyN l with
 | error e =>
  rw [hs] at h1
  obtain ⟨l', n', h1⟩ := h1
  simp only [h1, lns_some, now_some, fail_some, ansF]
 | ok x =>
  obtain ⟨n1, l1⟩ := x
  rw [hs] at h1
  simp only at h1
  simp only [h1]
  have h2 := lns_none l1.length l1 n1
  cases hl : lnsT l1.length n1 l1 with
  | error e =>
   rw [hl] at h2
   obtain ⟨l', n', h2⟩ := h2
   simp only [h2, now_some, fail_some, ansF]
  | ok x =>
   obtain ⟨n2, l2⟩ := x
   rw [hl] at h2
   simp only at h2
   simp only [h2, now_none]
   by_cases hk : (headT l2).kind = 0
   ·simp [hk, fail_yes, ansF]
   ·have hkb : ((headT l2).kind == 0) = false := by simpa using hk
    simp only [hkb, fail_no, ansF, if_neg hk]
end Go.Proofs.YtbjokgnnklcbcaaGreatDoor

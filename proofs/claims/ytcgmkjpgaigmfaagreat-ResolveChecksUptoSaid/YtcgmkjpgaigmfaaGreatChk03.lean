import Derived.Test.YtcgmkjpgaigmfaaGreatChk02
set_option linter.all false
/-! Plain: which programs may be, what names mean, a program's items, and what is wrong with one. -/
namespace Go.Proofs.YtcgmkjpgaigmfaaGreat
def strE : ByteArray := ByteArray.mk #[]
def accS : ByteArray := ByteArray.mk #[97, 99, 99, 101, 112, 116]
def rejS : ByteArray := ByteArray.mk #[114, 101, 106, 101, 99, 116]
def zLt : Lt := (0, 0, 0)
def zEx : Ex := .mk 0 zLt strE strE 0 0 []
def zSt : St := .mk 0 strE strE zEx [] []
def numV (l : Lt) : Int := l.2.1 * 18446744073709551616 + l.2.2
def fitsB (w : Int) (l : Lt) : Bool := decide (numV l < 2 ^ w.toNat)
def widthB (w : Int) : Bool := decide (1 ≤ w ∧ w ≤ 128)
def litB (l : Lt) : Bool := decide (l.1 = 0) || (widthB l.1 && fitsB l.1 l)
def targetB (s : ByteArray) : Bool := decide (s = accS) || (decide (s = rejS) || nameB s)
/-- What an expression of a kind has: head, name, number, ends; and how many arguments. -/
def formOf (op : Int) : Option ((Bool × Bool × Bool × Bool) × Int) :=
 if op = 1 then some ((false, false, true, false), 0) else if op = 2 then some ((true, true, false, false), 0) else if op = 3 ∨ op = 4 then some ((false, true, false, false), 0)
 else if op = 5 then some ((false, false, false, false), 0) else if op = 6 then some ((true, false, false, false), 0) else if 7 ≤ op ∧ op ≤ 9 then some ((false, false, false, false), 1)
 else if op = 10 then some ((false, false, false, true), 1) else if 11 ≤ op ∧ op ≤ 26 then some ((false, false, false, false), 2) else none
def namedB (s : ByteArray) (asked : Bool) : Bool := if asked then nameB s else decide (s = strE)
def oneB (op : Int) (lit : Lt) (head name : ByteArray) (hi lo : Int) (n : Nat) : Bool :=
 match formOf op with
 | none => false
 | some ((h, nm, l, en), a) => decide ((n : Int) = a) && namedB head h && namedB name nm && (if l then litB lit else decide (lit = zLt)) && (if en then decide (0 ≤ lo ∧ lo ≤ hi ∧ hi < 128) else decide (hi = 0 ∧ lo = 0))
def byB : Ex → Bool
 | .mk op lit _ _ _ _ _ => decide (op = 1) && decide (lit.1 = 0) && decide (numV lit ≤ 127)
def shB (op : Int) (args : List Ex) : Bool := if op = 14 ∨ op = 15 then (args[1]?).elim false byB else true
mutual
def allE : Ex → Bool
 | .mk op lit head name hi lo args => oneB op lit head name hi lo args.length && shB op args && allL args
def allL : List Ex → Bool
 | [] => true
 | x :: l => allE x && allL l
end
def mayE (e : Ex) : Bool := decide (depthE e ≤ 16) && allE e
def noEx : Ex → Bool
 | .mk op lit head name hi lo args => decide (op = 0) && decide (lit = zLt) && decide (head = strE) && decide (name = strE) && decide (hi = 0) && decide (lo = 0) && args.isEmpty
mutual
def mayS : St → Nat → Bool
 | .mk kind head name e thn els, deep =>
  if kind = 1 then thn.isEmpty && els.isEmpty && (decide (head = strE) || nameB head) && nameB name && mayE e
  else if kind = 2 then decide (head = strE) && decide (name = strE) && mayE e && (thn.isEmpty || (decide (deep + 1 ≤ 8) && decide (thn.length ≤ 32) && mayL thn (deep + 1))) && (els.isEmpty || (decide (deep + 1 ≤ 8) && decide (els.length ≤ 32) && mayL els (deep + 1)))
  else if kind = 3 then thn.isEmpty && els.isEmpty && decide (head = strE) && nameB name && noEx e
  else if kind = 4 then thn.isEmpty && els.isEmpty && decide (head = strE) && decide (name = strE) && noEx e
  else if kind = 5 then thn.isEmpty && els.isEmpty && decide (head = strE) && decide (name = strE) && mayE e
  else if kind = 6 ∨ kind = 7 then thn.isEmpty && els.isEmpty && nameB head && decide (name = strE) && noEx e
  else false
def mayL : List St → Nat → Bool
 | [], _ => true
 | s :: l, deep => mayS s deep && mayL l deep
end
def mayBlk (l : List St) (deep : Nat) : Bool := l.isEmpty || (decide (deep ≤ 8) && decide (l.length ≤ 32) && mayL l deep)
theorem allL_all : ∀ l : List Ex, allL l = l.all allE
 | [] => rfl
 | x :: l => by simp only [allL, List.all_cons, allL_all l]
theorem mayL_all (deep : Nat) : ∀ l : List St, mayL l deep = l.all fun s => mayS s deep
 | [] => rfl
 | x :: l => by simp only [mayL, List.all_cons, mayL_all deep l]
def fdB (f : Fd) : Bool := nameB f.1 && widthB f.2
def hdB (h : Hd) : Bool := nameB h.name && decide (1 ≤ h.fields.length ∧ h.fields.length ≤ 16) && h.fields.all fdB
def seB (s : Se) : Bool := if s.kind = 1 then decide (s.v = zLt) && decide (s.m = zLt) else if s.kind = 2 then litB s.v && decide (s.m = zLt) else if s.kind = 3 then litB s.v && litB s.m else false
def caB (keys : Nat) (c : Ca) : Bool := targetB c.dest && decide (c.sets.length = if c.dflt then 0 else keys) && c.sets.all seB
def saB (s : Sa) : Bool :=
 nameB s.name && decide (s.takes.length ≤ 8) && s.takes.all nameB && if s.dest = strE then decide (1 ≤ s.keys.length ∧ s.keys.length ≤ 4 ∧ 1 ≤ s.cases_.length ∧ s.cases_.length ≤ 16) && s.keys.all mayE && s.cases_.all (caB s.keys.length) else targetB s.dest && s.keys.isEmpty && s.cases_.isEmpty
def acB (a : Ac) : Bool := nameB a.name && decide (a.params.length ≤ 8) && a.params.all fdB && mayBlk a.body 1
def kyB (k : Ky) : Bool := mayE k.e && decide (1 ≤ k.kind ∧ k.kind ≤ 3)
def taB (t : Ta) : Bool := nameB t.name && decide (1 ≤ t.keys.length ∧ t.keys.length ≤ 4) && t.keys.all kyB && decide (1 ≤ t.actions.length ∧ t.actions.length ≤ 16) && t.actions.all nameB && nameB t.dname && decide (t.dargs.length ≤ 8) && t.dargs.all litB
def manyB (p : Pg) : Bool := decide (p.headers.length ≤ 8 ∧ p.metas.length ≤ 16 ∧ 1 ≤ p.states.length ∧ p.states.length ≤ 16 ∧ p.actions.length ≤ 16 ∧ p.tables.length ≤ 8 ∧ p.emit.length ≤ 8)
def mayP (p : Pg) : Bool := manyB p && p.headers.all hdB && p.metas.all fdB && p.states.all saB && p.actions.all acB && p.tables.all taB && mayBlk p.control 1 && p.emit.all nameB
/-! What names mean. -/
def headerI (p : Pg) (s : ByteArray) : Int := findI (p.headers.map Hd.name) s
def fieldsI (l : List Fd) (s : ByteArray) : Int := findI (l.map Prod.fst) s
def fieldI (p : Pg) (h : Int) (s : ByteArray) : Int := if h < 0 then -1 else (p.headers[h.toNat]?).elim (-1) fun x => fieldsI x.fields s
def metaI (p : Pg) (s : ByteArray) : Int := fieldsI p.metas s
def stateR (p : Pg) (s : ByteArray) : Int := findI (p.states.map Sa.name) s
def stateI (p : Pg) (s : ByteArray) : Int := if s = accS then -1 else if s = rejS then -2 else max (stateR p s) 0
def stateB (p : Pg) (s : ByteArray) : Bool := if s = accS then true else if s = rejS then true else decide (0 ≤ stateR p s)
def actionI (p : Pg) (s : ByteArray) : Int := findI (p.actions.map Ac.name) s
def paramI (p : Pg) (a : Int) (s : ByteArray) : Int := if a < 0 then -1 else (p.actions[a.toNat]?).elim (-1) fun x => fieldsI x.params s
def tableI (p : Pg) (s : ByteArray) : Int := findI (p.tables.map Ta.name) s
def bitsI (h : Hd) : Int := (h.fields.map Prod.snd).sum
def isI (b : Bool) (e : Int) : Int := if b then e else 0
def eitherI (e f : Int) : Int := if e = 0 then f else e
def ownB (p : Pg) (act : Int) (op : Int) (head name : ByteArray) : Bool :=
 if op = 2 then decide (0 ≤ fieldI p (headerI p head) name) else if op = 3 then decide (0 ≤ metaI p name) else if op = 4 then decide (0 ≤ paramI p act name) else if op = 6 then decide (0 ≤ headerI p head) else true
mutual
def thereE (p : Pg) (act : Int) : Ex → Bool
 | .mk op _ head name _ _ args => ownB p act op head name && thereL p act args
def thereL (p : Pg) (act : Int) : List Ex → Bool
 | [] => true
 | x :: l => thereE p act x && thereL p act l
end
theorem thereL_all (p : Pg) (act : Int) : ∀ l : List Ex, thereL p act l = l.all (thereE p act)
 | [] => rfl
 | x :: l => by simp only [thereL, List.all_cons, thereL_all p act l]
def namesI (p : Pg) (act : Int) (e : Ex) : Int := isI (!thereE p act e) 7
/-! Items. -/
structure It where
 kind : Int
 a : Int
 b : Int
 s : St
mutual
def itemsS (a : Int) : St → List It
 | .mk kind head name e thn els => ⟨10, a, 0, .mk kind head name e thn els⟩ :: (itemsL a thn ++ itemsL a els)
def itemsL (a : Int) : List St → List It
 | [] => []
 | s :: l => itemsS a s ++ itemsL a l
end
theorem itemsL_flat (a : Int) : ∀ l : List St, itemsL a l = l.flatMap (itemsS a)
 | [] => rfl
 | s :: l => by simp only [itemsL, List.flatMap_cons, itemsL_flat a l]
def manyI (kind : Int) (a : Nat) (n : Nat) : List It := (List.range n).map fun (i : Nat) => ⟨kind, (a : Int), (i : Int), zSt⟩
def eachI {α : Type} (kind : Int) (l : List α) (g : Nat → α → List It) : List It := l.zipIdx.flatMap fun x => ⟨kind, (x.2 : Int), 0, zSt⟩ :: g x.2 x.1
def headsI (p : Pg) : List It := eachI 1 p.headers fun i h => manyI 2 i h.fields.length
def metasI (p : Pg) : List It := eachI 3 p.metas fun _ _ => []
def statesI (p : Pg) : List It := eachI 4 p.states fun i s => manyI 5 i s.takes.length ++ (⟨6, (i : Int), 0, zSt⟩ :: manyI 7 i s.cases_.length)
def actsI (p : Pg) : List It := eachI 8 p.actions fun i a => manyI 9 i a.params.length ++ itemsL i a.body
def tabsI (p : Pg) : List It := eachI 11 p.tables fun i t => manyI 12 i t.keys.length ++ (manyI 13 i t.actions.length ++ [⟨14, (i : Int), 0, zSt⟩])
def emitsI (p : Pg) : List It := eachI 15 p.emit fun _ _ => []
def itemsP (p : Pg) : List It := headsI p ++ (metasI p ++ (statesI p ++ (actsI p ++ (tabsI p ++ (itemsL (-1) p.control ++ emitsI p)))))
/-! What is wrong with an item. -/
def stmtI (p : Pg) (act : Int) : St → Int
 | .mk kind head name e _ _ =>
  if kind = 3 then eitherI (isI (decide (0 ≤ act)) 9) (isI (decide (tableI p name < 0)) 7)
  else if kind = 6 ∨ kind = 7 then isI (decide (headerI p head < 0)) 7
  else if kind = 4 then 0
  else if kind = 1 then eitherI (isI (if head = strE then decide (metaI p name < 0) else decide (fieldI p (headerI p head) name < 0)) 7) (namesI p act e)
  else namesI p act e
def fixedI (p : Pg) (t : Ta) : Int :=
 if t.dname ∈ t.actions then if actionI p t.dname < 0 then 7 else eitherI (isI (decide ((t.dargs.length : Int) < ((p.actions[(actionI p t.dname).toNat]?).elim 0 fun a => a.params.length : Nat))) 13) (isI (decide (((p.actions[(actionI p t.dname).toNat]?).elim 0 fun a => a.params.length : Nat) < (t.dargs.length : Int))) 5) else 7
def toI (p : Pg) (s : ByteArray) : Int := isI (!stateB p s) 7
def nextI (p : Pg) (s : Sa) : Int := if s.dest = strE then isI (!s.keys.all (thereE p (-1))) 7 else toI p s.dest
def checkI (p : Pg) (x : It) : Int :=
 if x.kind = 1 then (p.headers[x.a.toNat]?).elim 0 fun h => eitherI (isI (decide (headerI p h.name < x.a)) 8) (isI (decide (bitsI h % 8 ≠ 0) || decide (256 < bitsI h)) 10)
 else if x.kind = 2 then (p.headers[x.a.toNat]?).elim 0 fun h => (h.fields[x.b.toNat]?).elim 0 fun f => isI (decide (fieldI p x.a f.1 < x.b)) 8
 else if x.kind = 3 then (p.metas[x.a.toNat]?).elim 0 fun f => isI (decide (metaI p f.1 < x.a)) 8
 else if x.kind = 4 then (p.states[x.a.toNat]?).elim 0 fun s => isI (decide (stateI p s.name < x.a)) 8
 else if x.kind = 5 then (p.states[x.a.toNat]?).elim 0 fun s => (s.takes[x.b.toNat]?).elim 0 fun h => isI (decide (headerI p h < 0)) 7
 else if x.kind = 6 then (p.states[x.a.toNat]?).elim 0 fun s => nextI p s
 else if x.kind = 7 then (p.states[x.a.toNat]?).elim 0 fun s => (s.cases_[x.b.toNat]?).elim 0 fun c => toI p c.dest
 else if x.kind = 8 then (p.actions[x.a.toNat]?).elim 0 fun a => isI (decide (actionI p a.name < x.a)) 8
 else if x.kind = 9 then (p.actions[x.a.toNat]?).elim 0 fun a => (a.params[x.b.toNat]?).elim 0 fun f => isI (decide (paramI p x.a f.1 < x.b)) 8
 else if x.kind = 10 then stmtI p x.a x.s
 else if x.kind = 11 then (p.tables[x.a.toNat]?).elim 0 fun t => isI (decide (tableI p t.name < x.a)) 8
 else if x.kind = 12 then (p.tables[x.a.toNat]?).elim 0 fun t => (t.keys[x.b.toNat]?).elim 0 fun k => namesI p (-1) k.e
 else if x.kind = 13 then (p.tables[x.a.toNat]?).elim 0 fun t => (t.actions[x.b.toNat]?).elim 0 fun a => eitherI (isI (decide (actionI p a < 0)) 7) (isI (decide (findI t.actions a < x.b)) 8)
 else if x.kind = 14 then (p.tables[x.a.toNat]?).elim 0 fun t => fixedI p t
 else (p.emit[x.a.toNat]?).elim 0 fun h => eitherI (isI (decide (headerI p h < 0)) 7) (isI (decide (findI p.emit h < x.a)) 8)
/-- What Check tells. -/
def firstBad (p : Pg) : List It → Nat → Int × Int
 | [], n => (n, 0)
 | x :: l, n => if checkI p x = 0 then firstBad p l (n + 1) else (n, checkI p x)
def checkR (p : Pg) : Int × Int := if mayP p then firstBad p (itemsP p) 0 else (-1, 2)
end Go.Proofs.YtcgmkjpgaigmfaaGreat

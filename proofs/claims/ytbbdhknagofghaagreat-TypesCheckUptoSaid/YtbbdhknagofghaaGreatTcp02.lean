import Derived.Test.YtbbdhknagofghaaGreatTcp01
import Derived.StillTailTactics
set_option linter.all false
set_option maxHeartbeats 2000000
open Go.Proofs.Tryz
namespace Go.Proofs.YtbbdhknagofghaaGreat
open _root_.Go.Sort renaming grow→Bl
open _root_.Bool renaming and_eq_true→Bn
open _root_.List renaming length_cons→By, flatMap_cons→BZ
open Go.RowKit
def aB:ByteArray:=ByteArray.mk #[]
def pd:ByteArray:=ByteArray.mk #[97,99,99,101,112,116]
def pf:ByteArray:=ByteArray.mk #[114,101,106,101,99,116]
def fW:Lt:=(0,0,0)
def AX:Ex:=.mk 0 fW aB aB 0 0 []
def de:St:=.mk 0 aB aB AX [] []
def lG (l:Lt):Int:=l.2.1*18446744073709551616+l.2.2
def dN (w:Int) (l:Lt):Bool:=decide (lG l<2 ^ w.toNat)
def cE (w:Int):Bool:=decide (1≤w∧w≤128)
def cr (l:Lt):Bool:=decide (l.1=0) ||(cE l.1&&dN l.1 l)
def bY (s:ByteArray):Bool:=decide (s=pd) ||(decide (s=pf) ||av s)
def bj (op:Int):Option ((Bool×Bool×Bool×Bool)×Int):=
 if op=1 then some ((false,false,true,false),0) else if op=2 then some ((true,true,false,false),0) else if op=3∨op=4 then some ((false,true,false,false),0)
 else if op=5 then some ((false,false,false,false),0) else if op=6 then some ((true,false,false,false),0) else if 7≤op∧op≤9 then some ((false,false,false,false),1)
 else if op=10 then some ((false,false,false,true),1) else if 11≤op∧op≤26 then some ((false,false,false,false),2) else none
def aK (s:ByteArray) (asked:Bool):Bool:=if asked then av s else decide (s=aB)
def fp (op:Int) (lit:Lt) (head name:ByteArray) (hi lo:Int) (n:Nat):Bool:=
 match bj op with
 |none=>false
 |some ((h,nm,l,en),a)=>decide ((n:Int)=a)&&aK head h&&aK name nm&&(if l then cr lit else decide (lit=fW))&&(if en then decide (0≤lo∧lo≤hi∧hi<128) else decide (hi=0∧lo=0))
def uG:Ex→Bool
 | .mk op lit _ _ _ _ _=>decide (op=1)&&decide (lit.1=0)&&decide (lG lit≤127)
def lH (op:Int) (args:List Ex):Bool:=if op=14∨op=15 then (args[1]?).elim false uG else true
mutual
def aT:Ex→Bool
 | .mk op lit head name hi lo args=>fp op lit head name hi lo args.length&&lH op args&&sA args
def sA:List Ex→Bool
 | []=>true
 |x::l=>aT x&&sA l
end
def cj (e:Ex):Bool:=decide (bQ e≤16)&&aT e
def dU:Ex→Bool
 | .mk op lit head name hi lo args=>decide (op=0)&&decide (lit=fW)&&decide (head=aB)&&decide (name=aB)&&decide (hi=0)&&decide (lo=0)&&args.isEmpty
mutual
def aM:St→Nat→Bool
 | .mk kind head name e thn els,deep=>
  if kind=1 then thn.isEmpty&&els.isEmpty&&(decide (head=aB) ||av head)&&av name&&cj e
  else if kind=2 then decide (head=aB)&&decide (name=aB)&&cj e&&(thn.isEmpty ||(decide (deep+1≤8)&&decide (thn.length≤32)&&gG thn (deep+1)))&&(els.isEmpty ||(decide (deep+1≤8)&&decide (els.length≤32)&&gG els (deep+1)))
  else if kind=3 then thn.isEmpty&&els.isEmpty&&decide (head=aB)&&av name&&dU e
  else if kind=4 then thn.isEmpty&&els.isEmpty&&decide (head=aB)&&decide (name=aB)&&dU e
  else if kind=5 then thn.isEmpty&&els.isEmpty&&decide (head=aB)&&decide (name=aB)&&cj e
  else if kind=6∨kind=7 then thn.isEmpty&&els.isEmpty&&av head&&decide (name=aB)&&dU e
  else false
def gG:List St→Nat→Bool
 | [],_=>true
 |s::l,deep=>aM s deep&&gG l deep
end
def aY (l:List St) (deep:Nat):Bool:=l.isEmpty ||(decide (deep≤8)&&decide (l.length≤32)&&gG l deep)
theorem fz:∀ l:List Ex,sA l=l.all aT
 | []=>rfl
 |x::l=>by simp only [sA,List.all_cons,fz l]
theorem gH (deep:Nat):∀ l:List St,gG l deep=l.all fun s=>aM s deep
 | []=>rfl
 |x::l=>by simp only [gG,List.all_cons,gH deep l]
def gB (f:Fd):Bool:=av f.1&&cE f.2
def iJ (h:Hd):Bool:=av h.name&&decide (1≤h.fields.length∧h.fields.length≤16)&&h.fields.all gB
def fA (s:Se):Bool:=if s.kind=1 then decide (s.v=fW)&&decide (s.m=fW) else if s.kind=2 then cr s.v&&decide (s.m=fW) else if s.kind=3 then cr s.v&&cr s.m else false
def ua (keys:Nat) (c:Ca):Bool:=bY c.dest&&decide (c.sets.length=if c.dflt then 0 else keys)&&c.sets.all fA
def lT (s:Sa):Bool:=
 av s.name&&decide (s.takes.length≤8)&&s.takes.all av&&if s.dest=aB then decide (1≤s.keys.length∧s.keys.length≤4∧1≤s.cases_.length∧s.cases_.length≤16)&&s.keys.all cj&&s.cases_.all (ua s.keys.length) else bY s.dest&&s.keys.isEmpty&&s.cases_.isEmpty
def nB (a:Ac):Bool:=av a.name&&decide (a.params.length≤8)&&a.params.all gB&&aY a.body 1
def sB (k:Ky):Bool:=cj k.e&&decide (1≤k.kind∧k.kind≤3)
def ob (t:Ta):Bool:=av t.name&&decide (1≤t.keys.length∧t.keys.length≤4)&&t.keys.all sB&&decide (1≤t.actions.length∧t.actions.length≤16)&&t.actions.all av&&av t.dname&&decide (t.dargs.length≤8)&&t.dargs.all cr
def qo (p:Pg):Bool:=decide (p.headers.length≤8∧p.metas.length≤16∧1≤p.states.length∧p.states.length≤16∧p.actions.length≤16∧p.tables.length≤8∧p.emit.length≤8)
def bg (p:Pg):Bool:=qo p&&p.headers.all iJ&&p.metas.all gB&&p.states.all lT&&p.actions.all nB&&p.tables.all ob&&aY p.control 1&&p.emit.all av
def ap (p:Pg) (s:ByteArray):Int:=bb (p.headers.map Hd.name) s
def cw (l:List Fd) (s:ByteArray):Int:=bb (l.map Prod.fst) s
def aJ (p:Pg) (h:Int) (s:ByteArray):Int:=if h<0 then-1 else (p.headers[h.toNat]?).elim (-1) fun x=>cw x.fields s
def ct (p:Pg) (s:ByteArray):Int:=cw p.metas s
def iK (p:Pg) (s:ByteArray):Int:=bb (p.states.map Sa.name) s
def co (p:Pg) (s:ByteArray):Int:=if s=pd then-1 else if s=pf then-2 else max (iK p s) 0
def cA (p:Pg) (s:ByteArray):Bool:=if s=pd then true else if s=pf then true else decide (0≤iK p s)
def bz (p:Pg) (s:ByteArray):Int:=bb (p.actions.map Ac.name) s
def aL (p:Pg) (a:Int) (s:ByteArray):Int:=if a<0 then-1 else (p.actions[a.toNat]?).elim (-1) fun x=>cw x.params s
def eE (p:Pg) (s:ByteArray):Int:=bb (p.tables.map Ta.name) s
def dO (h:Hd):Int:=(h.fields.map Prod.snd).sum
def cF (b:Bool) (e:Int):Int:=if b then e else 0
def aQ (e f:Int):Int:=if e=0 then f else e
def ep (p:Pg) (act:Int) (op:Int) (head name:ByteArray):Bool:=
 if op=2 then decide (0≤aJ p (ap p head) name) else if op=3 then decide (0≤ct p name) else if op=4 then decide (0≤aL p act name) else if op=6 then decide (0≤ap p head) else true
mutual
def aU (p:Pg) (act:Int):Ex→Bool
 | .mk op _ head name _ _ args=>ep p act op head name&&ph p act args
def ph (p:Pg) (act:Int):List Ex→Bool
 | []=>true
 |x::l=>aU p act x&&ph p act l
end
theorem iL (p:Pg) (act:Int):∀ l:List Ex,ph p act l=l.all (aU p act)
 | []=>rfl
 |x::l=>by simp only [ph,List.all_cons,iL p act l]
def cZ (p:Pg) (act:Int) (e:Ex):Int:=cF (!aU p act e) 7
structure It where
 kind:Int
 a:Int
 b:Int
 s:St
mutual
def cO (a:Int):St→List It
 | .mk kind head name e thn els=>⟨10,a,0,.mk kind head name e thn els⟩::(am a thn++am a els)
def am (a:Int):List St→List It
 | []=> []
 |s::l=>cO a s++am a l
end
theorem cf (a:Int):∀ l:List St,am a l=l.flatMap (cO a)
 | []=>rfl
 |s::l=>by simp only [am,BZ,cf a l]
def aR (kind:Int) (a:Nat) (n:Nat):List It:=(List.range n).map fun (i:Nat)=>⟨kind,(a:Int),(i:Int),de⟩
def aX {α:Type} (kind:Int) (l:List α) (g:Nat→α→List It):List It:=l.zipIdx.flatMap fun x=>⟨kind,(x.2:Int),0,de⟩::g x.2 x.1
def aC (p:Pg):List It:=aX 1 p.headers fun i h=>aR 2 i h.fields.length
def aG (p:Pg):List It:=aX 3 p.metas fun _ _=> []
def aE (p:Pg):List It:=aX 4 p.states fun i s=>aR 5 i s.takes.length++(⟨6,(i:Int),0,de⟩::aR 7 i s.cases_.length)
def bD (p:Pg):List It:=aX 8 p.actions fun i a=>aR 9 i a.params.length++am i a.body
def bW (p:Pg):List It:=aX 11 p.tables fun i t=>aR 12 i t.keys.length++(aR 13 i t.actions.length++ [⟨14,(i:Int),0,de⟩])
def cP (p:Pg):List It:=aX 15 p.emit fun _ _=> []
def ao (p:Pg):List It:=aC p++(aG p++(aE p++(bD p++(bW p++(am (-1) p.control++cP p)))))
def eO (p:Pg) (act:Int):St→Int
 | .mk kind head name e _ _=>
  if kind=3 then aQ (cF (decide (0≤act)) 9) (cF (decide (eE p name<0)) 7)
  else if kind=6∨kind=7 then cF (decide (ap p head<0)) 7
  else if kind=4 then 0
  else if kind=1 then aQ (cF (if head=aB then decide (ct p name<0) else decide (aJ p (ap p head) name<0)) 7) (cZ p act e)
  else cZ p act e
def eP (p:Pg) (t:Ta):Int:=
 if t.dname∈t.actions then if bz p t.dname<0 then 7 else aQ (cF (decide ((t.dargs.length:Int)<((p.actions[(bz p t.dname).toNat]?).elim 0 fun a=>a.params.length:Nat))) 13) (cF (decide (((p.actions[(bz p t.dname).toNat]?).elim 0 fun a=>a.params.length:Nat)<(t.dargs.length:Int))) 5) else 7
def zO (p:Pg) (s:ByteArray):Int:=cF (!cA p s) 7
def jh (p:Pg) (s:Sa):Int:=if s.dest=aB then cF (!s.keys.all (aU p (-1))) 7 else zO p s.dest
def aH (p:Pg) (x:It):Int:=
 if x.kind=1 then (p.headers[x.a.toNat]?).elim 0 fun h=>aQ (cF (decide (ap p h.name<x.a)) 8) (cF (decide (dO h % 8≠0) ||decide (256<dO h)) 10)
 else if x.kind=2 then (p.headers[x.a.toNat]?).elim 0 fun h=>(h.fields[x.b.toNat]?).elim 0 fun f=>cF (decide (aJ p x.a f.1<x.b)) 8
 else if x.kind=3 then (p.metas[x.a.toNat]?).elim 0 fun f=>cF (decide (ct p f.1<x.a)) 8
 else if x.kind=4 then (p.states[x.a.toNat]?).elim 0 fun s=>cF (decide (co p s.name<x.a)) 8
 else if x.kind=5 then (p.states[x.a.toNat]?).elim 0 fun s=>(s.takes[x.b.toNat]?).elim 0 fun h=>cF (decide (ap p h<0)) 7
 else if x.kind=6 then (p.states[x.a.toNat]?).elim 0 fun s=>jh p s
 else if x.kind=7 then (p.states[x.a.toNat]?).elim 0 fun s=>(s.cases_[x.b.toNat]?).elim 0 fun c=>zO p c.dest
 else if x.kind=8 then (p.actions[x.a.toNat]?).elim 0 fun a=>cF (decide (bz p a.name<x.a)) 8
 else if x.kind=9 then (p.actions[x.a.toNat]?).elim 0 fun a=>(a.params[x.b.toNat]?).elim 0 fun f=>cF (decide (aL p x.a f.1<x.b)) 8
 else if x.kind=10 then eO p x.a x.s
 else if x.kind=11 then (p.tables[x.a.toNat]?).elim 0 fun t=>cF (decide (eE p t.name<x.a)) 8
 else if x.kind=12 then (p.tables[x.a.toNat]?).elim 0 fun t=>(t.keys[x.b.toNat]?).elim 0 fun k=>cZ p (-1) k.e
 else if x.kind=13 then (p.tables[x.a.toNat]?).elim 0 fun t=>(t.actions[x.b.toNat]?).elim 0 fun a=>aQ (cF (decide (bz p a<0)) 7) (cF (decide (bb t.actions a<x.b)) 8)
 else if x.kind=14 then (p.tables[x.a.toNat]?).elim 0 fun t=>eP p t
 else (p.emit[x.a.toNat]?).elim 0 fun h=>aQ (cF (decide (ap p h<0)) 7) (cF (decide (bb p.emit h<x.a)) 8)
def bq (p:Pg):List It→Nat→Int×Int
 | [],n=>(n,0)
 |x::l,n=>if aH p x=0 then bq p l (n+1) else (n,aH p x)
def aZ (p:Pg):Int×Int:=if bg p then bq p (ao p) 0 else (-1,2)
structure Ty where
 w:Int
 truth:Bool
 free:Bool
abbrev Rs (α:Type):=Except Int α
def gv (t:Ty):Rs Ty:=if t.truth then .error 9 else if t.free then .error 10 else .ok t
mutual
def bB (w:Int):Ex→Bool
 | .mk op lit _ _ _ _ args=>if op=1 then dN w lit else qp w args
def qp (w:Int):List Ex→Bool
 | []=>true
 |x::l=>bB w x&&qp w l
end
def dy (a b:Ex) (s t:Ty):Rs Ty:=
 if s.truth ||t.truth then .error 9 else if s.free&&t.free then .error 10
 else if s.free then (if bB t.w a then .ok t else .error 5)
 else if t.free then (if bB s.w b then .ok s else .error 5)
 else if s.w=t.w then .ok s else .error 10
def cg (l:List Fd) (i:Int):Rs Ty:=if i<0 then .error 7 else .ok ⟨(l[i.toNat]?).elim 0 Prod.snd,false,false⟩
def dP (p:Pg) (act op:Int) (lit:Lt) (head name:ByteArray):Rs Ty:=
 if op=1 then .ok ⟨lit.1,false,decide (lit.1=0)⟩
 else if op=2 then if ap p head<0 then .error 7 else cg ((p.headers[(ap p head).toNat]?).elim [] Hd.fields) (aJ p (ap p head) name)
 else if op=3 then cg p.metas (ct p name)
 else if op=4 then if aL p act name<0 then .error 7 else cg ((p.actions[act.toNat]?).elim [] Ac.params) (aL p act name)
 else if op=6 then if ap p head<0 then .error 7 else .ok ⟨0,true,false⟩
 else .ok ⟨9,false,false⟩
def fX (op hi lo:Int) (t:Ty):Rs Ty:=
 if op=9 then if t.truth then .ok t else .error 9
 else if op=10 then if t.truth then .error 9 else if t.free then .error 10 else if hi<t.w then .ok ⟨hi-lo+1,false,false⟩ else .error 5
 else if t.truth then .error 9 else .ok t
def cI (op:Int) (a b:Ex) (s t:Ty):Rs Ty:=
 if op=11 then (if s.truth then .error 9 else if s.free then .error 10 else if t.truth then .error 9 else if t.free then .error 10 else if s.w+t.w≤128 then .ok ⟨s.w+t.w,false,false⟩ else .error 5)
 else if 25≤op then (if s.truth&&t.truth then .ok s else .error 9)
 else match dy a b s t with
  | .error n=>.error n
  | .ok j=>if 19≤op then .ok ⟨0,true,false⟩ else .ok j
def bI (p:Pg) (act:Int):Ex→Rs Ty
 | .mk op lit head name _ _ []=>dP p act op lit head name
 | .mk op _ _ _ hi lo [a]=>match bI p act a with
  | .error n=>.error n
  | .ok s=>fX op hi lo s
 | .mk op _ _ _ _ _ (a::b::_)=>match bI p act a with
  | .error n=>.error n
  | .ok s=>if op=14∨op=15 then gv s else match bI p act b with
   | .error n=>.error n
   | .ok t=>cI op a b s t
def cV (t:Ty):Prop:=¬(t.truth=true∧t.free=true)∧(t.truth=false→t.free=false→1≤t.w∧t.w≤128)
section
open Go Go.RowKit
section
variable {P:Program} {ops:Array Oper} {md:Region.Mode} {C:World→Prop}
def qq (P:Program) (md:Region.Mode) (ops:Array Oper) (C:World→Prop) (n:Nat) (L:Array Bool→Act→Prop):Nat→Array Bool→Act→Prop
 |0,listed,a=>L listed a
 |f+1,listed,a=>Region.ready md ops listed≠ []∧∀ i∈Region.ready md ops listed,i<n∧qOp P ops C i (qq P md ops C n L f (listed.setIfInBounds i true)) a
theorem gI {n g:Nat} {L:Array Bool→Act→Prop} {Q:Exit→Act→World→Prop} (hL:∀ listed a w,C w→L listed a→wpAny P md ops Q g listed a w):
  ∀ (f:Nat) (listed:Array Bool) (a:Act) (w:World),C w→qq P md ops C n L f listed a→wpAny P md ops Q (f+g) listed a w
 |0,listed,a,w,hw,h=>by rw [Nat.zero_add];exact hL _ _ _ hw h
 |f+1,listed,a,w,hw,h=>by
  rw [Nat.add_right_comm]
  exact ⟨fun h0=>absurd h0 h.1,fun i hi=>wpOp_of_qOp hw (fun a' w' hw' h'=>gI hL f _ a' w' hw' h') (h.2 i hi).2⟩
theorem qr {n i:Nat} {oi:Oper} {v:Value} {L:Array Bool→Act→Prop} (hi:ops[i]? =some oi) (hsel:∀ (j:Nat) (o:Oper) cs b,ops[j]? =some o→o.op≠ .select cs b)
  (hs:Region.sinkB md ops n=true) (hc:Region.chainB md ops n=true) (hn:n<ops.size) (hin:i<n) (hdone:∀ listed a,L listed a→∀ j∈Region.ready md ops listed,n≤j):
  ∀ (f:Nat) (listed:Array Bool) (a:Act),HeadInv md ops n listed→
   (∀ j oj,ops[j]? =some oj→j≠i→listed.getD j true=false→(∀ e∈oj.after,Region.binds md e=true→e.on≠i)→oi.apart ops oj=true)→
   i∈Region.ready md ops listed→YieldsIn P ops C oi v a→qq P md ops C n L f (listed.setIfInBounds i true) (a.put oi.dst v)→qq P md ops C n L (f+1) listed a:=by
 intro f
 induction f with
 |zero=>
  intro listed a inv _ hr hy H
  refine ⟨fun h=>(by rw [h] at hr;cases hr),fun j hj=> ?_⟩
  have hjn:j<n:=Nat.lt_of_not_le fun h=>tail_waits hs hc hn inv _ i rfl hin (mem_ready.1 hr).1 j h hj
  by_cases e:j=i
  ·subst e;exact ⟨hjn,hy.qOp hi H⟩
  ·exact absurd (hdone _ _ H j (ready_mono hj e)) (by omega)
 |succ f ih=>
  intro listed a inv hfree hr hy H
  have hun:=(mem_ready.1 hr).1
  refine ⟨fun h=>(by rw [h] at hr;cases hr),fun j hj=> ?_⟩
  have hjn:j<n:=Nat.lt_of_not_le fun h=>tail_waits hs hc hn inv _ i rfl hin hun j h hj
  by_cases e:j=i
  ·subst e;exact ⟨hjn,hy.qOp hi H⟩
  ·refine ⟨hjn,?_⟩
   obtain ⟨hjun,oj,hoj,hall⟩:=mem_ready.1 hj
   have hnot:∀ x∈oj.after,Region.binds md x=true→x.on≠i:=fun x hx hb he=>by
    have h1:=hall x hx hb
    rw [he,getD_both hun] at h1
    cases h1
   refine qOp_mono (fun a' h3=>ih _ a' (inv.set hj hjn) (fun k ok hk hki hu hno=>hfree k ok hk hki ?_ hno) (ready_mono hr (Ne.symm e)) h3.1 ?_)
    (qOp_put hoj (hfree j oj hoj e hjun hnot) (fun cs b=>hsel i oi cs b hi) (fun cs b=>hsel j oj cs b hoj) hy (H.2 j (ready_mono hj e)).2)
   ·by_cases ejk:j=k
    ·subst ejk;exact hjun
    ·rw [getD_set_ne true ejk] at hu;exact hu
   ·rw [Array.setIfInBounds_comm _ _ e]
    exact h3.2
theorem od {n g:Nat} {T:Act→Prop} (hsel:Region.noSelect ops=true) (hs:Region.sinkB md ops n=true) (hc:Region.chainB md ops n=true) (hn:n<ops.size):
  ∀ (l:List Oper) (k:Nat) (listed:Array Bool) (a:Act),(∀ j,j<l.length→l[j]? =ops[k+j]?)→k+l.length=n→HeadInv md ops n listed→Region.lexHead md ops g l.length k listed=true→wpQuiet P ops C T l a→
   qq P md ops C n (fun x y=>Region.seqB md ops g n x=true∧T y) l.length listed a
 | [],k,listed,a,_,hk,_,hB,h=>by
  obtain rfl:k=n:=by simpa using hk
  exact ⟨by simpa [Region.lexHead] using hB,h⟩
 |o::l,k,listed,a,hl,hk,inv,hB,h=>by
  have h0:ops[k]? =some o:=by simpa using (hl 0 (by simp)).symm
  simp only [By,Region.lexHead,Bn] at hB
  rw [By] at hk
  have hr:k∈Region.ready md ops listed:=by simpa using hB.1.1
  obtain ⟨v,hy,hK⟩:=yieldsIn_of_qOp h0 (show qOp P ops C k (wpQuiet P ops C T l) a from by unfold qOp;simp only [h0];exact h)
  exact qr h0 (Region.noSelect_spec hsel) hs hc hn (by omega) (fun _ _ hL=>seqB_ready hL.1) l.length listed a inv (Region.free_spec h0 hB.1.2) hr hy
   (od hsel hs hc hn l (k+1) _ _ (fun j hj=>by have:=hl (j+1) (by simpa using hj);simpa [Nat.add_assoc,Nat.add_comm 1 j] using this) (by omega) (inv.set hr (by omega)) hB.2 hK)
end
theorem aS {P:Program} {id:Nat} {Q:Exit→Act→World→Prop} {a:Act} {w:World} {l:List Oper} (n:Nat) (hm:P.follows .mixedOrders=true) (hB:Region.lexTailB .any l.toArray n=true)
  (h:wpQuiet P l.toArray (fun w'=>∃ p:Regrown,w'=Bl (redrawn w p.d) p.os) (fun a'=>∀ w',Below w.heap.size w w'→wpList P l.toArray Q (l.drop n) a' w') (l.take n) a):(Code.region id l.toArray true).wp P Q a w:=by
 simp only [Region.lexTailB,Bn,decide_eq_true_eq] at hB
 obtain ⟨⟨⟨⟨hsel,hn⟩,hs⟩,hc⟩,hlex⟩:=hB
 have htl:(l.take n).length=n:=by simp at hn ⊢;omega
 have hdl:(l.drop n).length=l.toArray.size-n:=by simp
 have inv0:HeadInv .any l.toArray n (Array.replicate l.toArray.size false):=
  ⟨by simp,fun j oj _ hl=>(by rw [getD_replicate_false] at hl;cases hl),fun t _ ht=>getD_in (by simpa using ht) (getD_replicate_false _ _)⟩
 refine wp_region_any hm ?_
 have H:=od (md:=.any) (g:=l.toArray.size-n) hsel hs hc hn (l.take n) 0 _ a (fun j hj=>by rw [htl] at hj;simp [hj]) (by simpa using htl) inv0 (by rw [htl];exact hlex) h
 have:=gI (Q:=Q) (g:=l.toArray.size-n) (fun listed a' w' hw hL=>by
  have:=wpAny_of_seq (md:=.any) (Q':=Q) (l.drop n) n listed a' w' (fun j=>by simp [List.getElem?_drop]) (by rw [hdl];exact hL.1) (hL.2 w' (ac hw))
  rwa [hdl] at this) _ _ _ { w with drawn:=w.drawn+1} ⟨⟨w.drawn+1,#[]⟩,by rw [Go.Sort.grow_empty];rfl⟩ H
 rwa [htl,show n+(l.toArray.size-n)=l.toArray.size by omega] at this
end
section
attribute [local go_sem] run_panic_iface
def gw (t:Ty):Array Value:=#[.int .i64 t.w,.bool t.truth,.bool t.free]
abbrev ji (n:Int):Ending:=.panicked [{ v:=.iface 33 (.int .i64 n),recovered:=false}]
def fB (r:Rs Ty):Ending:=match r with
 | .ok t=>.returned (.agg (gw t))
 | .error n=>ji n
def fq (r:Rs Unit):Ending:=match r with
 | .ok _=>.returned (.tuple #[])
 | .error n=>ji n
theorem aP (n:Int) (w:World):Calls prog 27 #[.bool true,.int .i64 n] w fun e w'=>e=.returned (.tuple #[])∧w=w':=by
 go_enter func27,ntmps27
 go_wp2
 first|(go_end0;exact ⟨rfl,rfl⟩)|skip
theorem bJ (n:Int) (w:World):Calls prog 27 #[.bool false,.int .i64 n] w fun e w'=>e=ji n∧w=w':=by
 go_enter func27,ntmps27
 go_wp2
 exact ⟨rfl,rfl,rfl⟩
theorem jY (t:Ty) (w:World):Calls prog 35 #[.agg (gw t)] w fun e w'=>e=fB (gv t)∧Below w.heap.size w w':=by
 show Calls _ _ #[.agg #[.int .i64 t.w,.bool t.truth,.bool t.free]] _ _
 obtain ⟨wa,hwa,hsa,hba,hca,-⟩:=al w #[.int .i64 t.w,.bool t.truth,.bool t.free] 75
 obtain ⟨wb,hwb,hsb,hbb,hcb,hfb⟩:=al wa #[.int .i64 0,.bool false,.bool false] 75
 have hw:=aa (hba.trans (hbb.mono (by omega)))
 have q:∀ i,wb.cell? ⟨w.heap.size,i,none⟩=wa.cell? ⟨w.heap.size,i,none⟩:=fun i=>hbb.cell (p:=⟨w.heap.size,i,none⟩) (by show w.heap.size<_;omega)
 obtain ⟨y0,y1,y2⟩:=bF (w:=wb) fun i=>(q i).trans (hca i)
 rw [hsa] at hcb hfb
 obtain ⟨z0,z1,z2⟩:=bF hcb
 have hl1:w.heap.size<wb.heap.size:=by omega
 have hl2:w.heap.size+1<wb.heap.size:=by omega
 have hv:=aa (show gv t=if t.truth then .error 9 else if t.free then .error 10 else .ok t from rfl)
 obtain ⟨n,tr,fr⟩:=t
 clear q hca hcb hba hbb
 replace hsb:=aa hsb
 simp only at*
 go_enter func35,ntmps35
 cases tr with
 |true=>
  go_wp2_with (go_at_call 27;refine (bJ _ _).mono ?_;rintro e w' ⟨rfl,rfl⟩)
  exact ⟨rfl,by rw [hv.out];rfl,hw.out⟩
 |false=>
  cases fr with
  |true=>
   go_wp2_with (go_at_call 27;first|(with_reducible refine (aP _ _).mono ?_;rintro e w' ⟨rfl,rfl⟩)|(with_reducible refine (bJ _ _).mono ?_;rintro e w' ⟨rfl,rfl⟩))
   exact ⟨rfl,by rw [hv.out];rfl,hw.out⟩
  |false=>
   go_wp2_with (go_at_call 27;refine (aP _ _).mono ?_;rintro e w' ⟨rfl,rfl⟩)
   refine bodyPost_ret (v:=.agg #[.int .i64 n,.bool false,.bool false]) (by simp [results,results35,go_sem,z0,z1,z2]) rfl ⟨by rw [hv.out];rfl,?_⟩
   exact ((hw.out.setCell (by show _≤_+1;omega) _).setCell (by show _≤_+1;omega) _).setCell (by show _≤_+1;omega) _
theorem ff (n:Int) (fr:Bool) (w:World):Calls prog 35 #[.agg #[.int .i64 n,.bool true,.bool fr]] w fun e w'=>e=ji 9∧Below w.heap.size w w':=jY ⟨n,true,fr⟩ w
theorem fg (n:Int) (w:World):Calls prog 35 #[.agg #[.int .i64 n,.bool false,.bool true]] w fun e w'=>e=ji 10∧Below w.heap.size w w':=jY ⟨n,false,true⟩ w
theorem dg (n:Int) (w:World):Calls prog 35 #[.agg #[.int .i64 n,.bool false,.bool false]] w fun e w'=>e=.returned (.agg #[.int .i64 n,.bool false,.bool false])∧Below w.heap.size w w':=jY ⟨n,false,false⟩ w
end
end Go.Proofs.YtbbdhknagofghaaGreat

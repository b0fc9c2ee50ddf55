import Derived.Test.YtbbdhknagofghaaGreatTcp02
set_option linter.all false
set_option maxHeartbeats 4000000
set_option maxRecDepth 100000
open Go.Proofs.Tryz
namespace Go.Proofs.YtbbdhknagofghaaGreat
open _root_.Nat renaming lt_of_lt_of_le→Bg, le_refl→Bm
open _root_.List renaming getElem?_eq_getElem→Bk, getElem_mem→Bv, all_eq_true→Bw, length_cons→By
open _root_.Bool renaming and_eq_true→Bn
open _root_.Array renaming getElem?_eq_some_iff→Bs, getElem?_eq_none→B8
open Go.RowKit
theorem mn (q:Addr) (w:World):
  CallsD prog 34 #[.pointer (some q)] .returning w fun e u' w'=>e=.returned (.tuple #[])∧u'=.returning∧w'=w:=by
 refine callsD_of_wpS func34 rfl fun c₀ cs hu=> ?_
 apply wpS_seq
 apply wpS_region
 simp [wpOpsS,go_sem,recoverD,hu,ntmps34,Exit.thenS]
 apply wpS_seq
 apply wpS_region
 simp [wpOpsS,go_sem,Exit.thenS]
 refine wpS_cond (t:=false) (by simp [Act.eval,Array.replicate]) ?_
 simp only [Bool.false_eq_true,if_false]
 refine wpS_of_wp ?_
 go_wp2
 cases c₀
 simp_all [bodyPostS,results,results34,Exit.thenS]
theorem kP (q:Addr) (x n:Int) (older:List PanicEntry) (w:World) (hc:w.cell? q=some (.int .i64 x)) (hz:w.frozen? q=false):
  CallsD prog 34 #[.pointer (some q)] (.panicking ({ v:=.iface 33 (.int .i64 n),recovered:=false}::older)) w fun e u' w'=>
   e=.returned (.tuple #[])∧u'=.panicking ({ v:=.iface 33 (.int .i64 n),recovered:=true}::older)∧w'=w.setCell q (.int .i64 n):=by
 refine callsD_of_wpS func34 rfl fun c₀ cs hu=> ?_
 apply wpS_seq
 apply wpS_region
 simp [wpOpsS,go_sem,recoverD,hu,ntmps34,Exit.thenS]
 apply wpS_seq
 apply wpS_region
 simp [wpOpsS,go_sem,Exit.thenS]
 refine wpS_cond (t:=true) (by simp [Act.eval,Array.replicate]) ?_
 simp only [if_true]
 apply wpS_region
 simp [wpOpsS,go_sem,hc,hz,bodyPostS,results,results34]
def bS (r:Rs Unit):Int:=match r with
 | .error n=>n
 | .ok _=>0
theorem pi (a b:Option Addr) (r:Rs Unit) (w:World) (hBy:∀ W,Below w.heap.size w W→Calls prog 20 #[.pointer a,.pointer b] W fun e w'=>e=fq r∧Below W.heap.size W w'):
  Calls prog 19 #[.func (.func 20) #[] #[.pointer a,.pointer b]] w fun e w'=>e=.returned (.int .i64 (bS r))∧Below w.heap.size w w':=by
 have hmf:∀ (fn:Fn) (first cap:Array Value) (w:World),(Instr.makeFunc fn first cap).run prog w=.ok (.func fn first cap) w:=fun _ _ _ _=>rfl
 obtain ⟨wb,hwb,hsb,hbb,hcb,hfb⟩:=al w #[.int .i64 0] 33
 have x0:wb.cell? ⟨w.heap.size,0,none⟩=some (.int .i64 0):=hcb 0
 have hf0:=hfb 0
 have hl1:w.heap.size<wb.heap.size:=by omega
 have hB:=aa (hBy wb hbb)
 clear hcb hfb hBy
 replace hsb:=aa hsb
 cases r with
 |ok u=>
  replace hB:=aa (show Calls prog _ _ wb fun e w'=>e=.returned (.tuple #[])∧Below wb.heap.size wb w' from hB.out)
  go_enter_defers func19,ntmps19
  go_wp2_with (go_at_call 20;refine hB.out.mono ?_;rintro e w3 ⟨rfl,hb3⟩;have kb3:=ab hb3;have q3:=Bg hl1 hb3.size)
  refine leaves_cons (f:=34) (args:=#[.pointer (some ⟨w.heap.size,0,none⟩)]) (by simp) (by simp [go_sem]) ?_
  refine (mn ⟨w.heap.size,0,none⟩ _).mono ?_
  rintro e u' w'' ⟨rfl,rfl,rfl⟩
  have hlt:=q3
  have hcell:=(hb3.cell (p:=⟨w.heap.size,0,none⟩) hl1).trans x0
  simp [Leaves,settle,results,results19,go_sem,hcell,bS]
  exact (hbb.trans (hb3.mono (by omega))).setCell (Bm _) _
 |error n=>
  replace hB:=aa (show Calls prog _ _ wb fun e w'=>e=ji n∧Below wb.heap.size wb w' from hB.out)
  go_enter_defers func19,ntmps19
  go_wp2_with (go_at_call 20;refine hB.out.mono ?_;rintro e w3 ⟨rfl,hb3⟩;have kb3:=ab hb3;have q3:=Bg hl1 hb3.size)
  have hcell:=(hb3.cell (p:=⟨w.heap.size,0,none⟩) hl1).trans x0
  have hfz:w3.frozen? ⟨w.heap.size,0,none⟩=false:=(kb3.2 _ 0 hl1).trans hf0
  refine leaves_cons (f:=34) (args:=#[.pointer (some ⟨w.heap.size,0,none⟩)]) (by simp) (by simp [go_sem]) ?_
  refine (kP ⟨w.heap.size,0,none⟩ 0 n [] _ hcell hfz).mono ?_
  rintro e u' w'' ⟨rfl,rfl,rfl⟩
  simp [Leaves,settle,results,results19,go_sem,hcell,bS]
  exact (hbb.trans (hb3.mono (by omega))).setCell (Bm _) _
theorem jZ {l:List Fd} {i:Int} {t:Ty} (hl:∀ f∈l,1≤f.2∧f.2≤128) (hi:¬i<0→i.toNat<l.length) (h:cg l i=.ok t):cV t:=by
 unfold cg at h
 by_cases h0:i<0
 ·rw [if_pos h0] at h;cases h
 ·rw [if_neg h0] at h
  injection h with h
  subst h
  have hk:=hi h0
  refine ⟨by simp,fun _ _=> ?_⟩
  simp only [Bk hk,Option.elim]
  exact hl _ (Bv hk)
theorem ik {l:List Fd} (h:l.all gB=true):∀ f∈l,1≤f.2∧f.2≤128:=fun f hf=>by
 have:=Bw.1 h f hf
 simp only [gB,cE,Bn,decide_eq_true_eq] at this
 exact this.2
theorem kQ {α:Type} [DecidableEq α] {l:List α} {a:α} (h:¬bb l a<0):(bb l a).toNat<l.length:=by
 unfold bb at h ⊢
 by_cases hm:a∈l
 ·rw [if_pos hm];have:=pc a l hm;omega
 ·rw [if_neg hm] at h;omega
theorem fY {l:List Fd} {s:ByteArray} (h:¬cw l s<0):(cw l s).toNat<l.length:=by
 have:=kQ (l:=l.map Prod.fst) (a:=s) h
 rw [List.length_map] at this
 exact this
def dz (p:Pg):Bool:=p.headers.all iJ&&p.metas.all gB&&p.actions.all nB
theorem dH {p:Pg} (hm:bg p=true):dz p=true:=by
 simp only [bg,Bn] at hm
 simp only [dz,Bn]
 exact ⟨⟨hm.1.1.1.1.1.1.2,hm.1.1.1.1.1.2⟩,hm.1.1.1.2⟩
theorem yz {p:Pg} (hm:dz p=true) {act op:Int} {lit:Lt} {head name:ByteArray} (hl:op=1→cr lit=true) {t:Ty} (h:dP p act op lit head name=.ok t):cV t:=by
 simp only [dz,Bn] at hm
 obtain ⟨⟨hh,hmt⟩,ha⟩:=hm
 unfold dP at h
 split at h
 ·rename_i h1
  injection h with h
  subst h
  refine ⟨by simp,fun _ hf=> ?_⟩
  have:=hl h1
  simp only [cr,Bool.or_eq_true,decide_eq_true_eq,Bn,cE] at this
  simp only [decide_eq_false_iff_not] at hf
  rcases this with h|h
  ·exact absurd h hf
  ·exact h.1
 ·split at h
  ·split at h
   ·cases h
   ·rename_i hn
    have hk:=kQ (l:=p.headers.map Hd.name) (a:=head) hn
    rw [List.length_map] at hk
    change (ap p head).toNat<_ at hk
    rw [Bk hk] at h
    simp only [Option.elim] at h
    have hd:=Bw.1 hh _ (Bv hk)
    simp only [iJ,Bn] at hd
    refine jZ (ik hd.2) (fun hi=> ?_) h
    have e:aJ p (ap p head) name=cw p.headers[(ap p head).toNat].fields name:=by
     unfold aJ;rw [if_neg hn,Bk hk];rfl
    rw [e] at hi ⊢
    exact fY hi
  ·split at h
   ·exact jZ (ik hmt) (fun hi=>fY hi) h
   ·split at h
    ·split at h
     ·cases h
     ·rename_i hn
      have ha0:¬act<0:=fun h0=>by unfold aL at hn;rw [if_pos h0] at hn;omega
      by_cases hk:act.toNat<p.actions.length
      ·have e:aL p act name=cw p.actions[act.toNat].params name:=by
        unfold aL;rw [if_neg ha0,Bk hk];rfl
       rw [Bk hk] at h
       simp only [Option.elim] at h
       have had:=Bw.1 ha _ (Bv hk)
       simp only [nB,Bn] at had
       refine jZ (ik had.1.2) (fun hi=> ?_) h
       rw [e] at hi ⊢
       exact fY hi
      ·unfold aL at hn
       rw [if_neg ha0,List.getElem?_eq_none (by omega)] at hn
       simp only [Option.elim] at hn
       omega
    ·split at h
     ·split at h
      ·cases h
      ·injection h with h;subst h;exact ⟨by simp,fun h=>by cases h⟩
     ·injection h with h;subst h;exact ⟨by simp,fun _ _=>by simp⟩
theorem zX {op hi lo:Int} {s t:Ty} (hop:op=10→0≤lo∧lo≤hi) (hs:cV s) (h:fX op hi lo s=.ok t):cV t:=by
 unfold fX at h
 split at h
 ·split at h
  ·injection h with h;subst h;exact hs
  ·cases h
 ·split at h
  ·rename_i h10
   obtain ⟨g1,g2⟩:=hop h10
   split at h
   ·cases h
   ·split at h
    ·cases h
    ·split at h
     ·rename_i h1 h2 h3
      have:=hs.2 (by simpa using h1) (by simpa using h2)
      injection h with h;subst h
      exact ⟨by simp,fun _ _=>by simp only;omega⟩
     ·cases h
  ·split at h
   ·cases h
   ·injection h with h;subst h;exact hs
theorem yA {s t:Ty} (hs:cV s) (h:gv s=.ok t):cV t∧t=s∧s.truth=false∧s.free=false:=by
 unfold gv at h
 split at h
 ·cases h
 ·split at h
  ·cases h
  ·rename_i h1 h2
   injection h with h;subst h;exact ⟨hs,rfl,by simpa using h1,by simpa using h2⟩
theorem yB {a b:Ex} {s t j:Ty} (hs:cV s) (ht:cV t) (h:dy a b s t=.ok j):cV j:=by
 unfold dy at h
 repeat' split at h
 all_goals first
  |(cases h;done)
  |(injection h with h;subst h;assumption)
theorem yC {op:Int} {a b:Ex} {s t j:Ty} (hs:cV s) (ht:cV t) (h:cI op a b s t=.ok j):cV j:=by
 unfold cI at h
 split at h
 ·split at h
  ·cases h
  ·split at h
   ·cases h
   ·split at h
    ·cases h
    ·split at h
     ·cases h
     ·split at h
      ·rename_i h1 h2 h3 h4 h5
       have e1:=hs.2 (by simpa using h1) (by simpa using h2)
       have e2:=ht.2 (by simpa using h3) (by simpa using h4)
       injection h with h;subst h
       exact ⟨by simp,fun _ _=>by simp only;omega⟩
      ·cases h
 ·split at h
  ·split at h
   ·injection h with h;subst h;exact hs
   ·cases h
  ·split at h
   ·cases h
   ·rename_i j' hj
    split at h
    ·injection h with h;subst h;exact ⟨by simp,fun h=>by cases h⟩
    ·injection h with h;subst h;exact yB hs ht hj
theorem mo {op:Int} {lit:Lt} {head name:ByteArray} {hi lo:Int} {n:Nat} (h:fp op lit head name hi lo n=true):(op=1→cr lit=true)∧(op=10→0≤lo∧lo≤hi∧hi<128):=by
 refine ⟨fun e=> ?_,fun e=> ?_⟩
 ·subst e
  simp [fp,bj] at h
  exact h.1.2
 ·subst e
  simp [fp,bj] at h
  exact h.2
theorem eu {p:Pg} (hm:dz p=true) (act:Int) (e:Ex):aT e=true→∀ t,bI p act e=.ok t→cV t:=by
 induction e using Ex.ind with
 |h op lit head name hi lo args ih=>
  intro he t h
  simp only [aT,Bn,fz,Bw] at he
  obtain ⟨f1,f2⟩:=mo he.1.1
  match args,ih,he,h with
  | [],_,_,h=>exact yz hm f1 (by simpa only [bI] using h)
  | [a],ih,he,h=>
   simp only [bI] at h
   split at h
   ·cases h
   ·rename_i s hs
    exact zX (fun e=>⟨(f2 e).1,(f2 e).2.1⟩) (ih a (by simp) (he.2 a (by simp)) s hs) h
  |a::b::l,ih,he,h=>
   simp only [bI] at h
   split at h
   ·cases h
   ·rename_i s hs
    have hsk:=ih a (by simp) (he.2 a (by simp)) s hs
    split at h
    ·exact (yA hsk h).1
    ·split at h
     ·cases h
     ·rename_i t' ht'
      exact yC hsk (ih b (by simp) (he.2 b (by simp)) t' ht') h
theorem wV {p:Pg} (hm:bg p=true) (act:Int) (e:Ex) (he:aT e=true):∀ t,bI p act e=.ok t→cV t:=eu (dH hm) act e he
def db (r:Rs Ty):Ty×Int:=match r with
 | .ok t=>(t,0)
 | .error n=>(⟨0,false,false⟩,n)
def AK (r:Rs Ty):Rs Unit:=match r with
 | .ok _=>.ok ()
 | .error n=>.error n
theorem yD (r:Rs Ty):bS (AK r)=(db r).2:=by cases r<;>rfl
def iz (p:Pg) (act:Int) (e:Ex):Rs Ty:=if cj e then bI p act e else .error 2
def zQ (t:Ty):Int:=if t.truth then 9 else if t.free then 10 else 0
def ub (r:Rs Ty):Int×Int:=match r with
 | .ok t=>(t.w,0)
 | .error n=>(0,n)
theorem oe {a b:Ex} {s t j:Ty} (h:dy a b s t=.ok j):j=⟨j.w,false,false⟩:=by
 obtain ⟨sw,sr,sf⟩:=s
 obtain ⟨tw,tr,tf⟩:=t
 unfold dy at h
 cases sr<;>cases tr<;>cases sf<;>cases tf<;>simp at h
 ·split at h
  ·injection h with h;subst h;rfl
  ·cases h
 ·split at h
  ·injection h with h;subst h;rfl
  ·cases h
 ·split at h
  ·injection h with h;subst h;rfl
  ·cases h
theorem uH {p:Pg} {act op:Int} {lit:Lt} {head name:ByteArray} {t:Ty} (h:dP p act op lit head name=.ok t) (hf:t.free=true):op=1:=by
 have hfd:∀ l i,cg l i≠ .ok t:=fun l i h=>by
  unfold cg at h
  split at h
  ·cases h
  ·injection h with h;subst h;cases hf
 unfold dP at h
 split at h
 ·assumption
 ·repeat' split at h
  all_goals first
   |(cases h;done)
   |exact absurd h (hfd _ _)
   |(injection h with h;subst h;cases hf)
theorem uI {p:Pg} {act:Int} (hm:dz p=true) {op:Int} {lit:Lt} {head name:ByteArray} {hi lo:Int} {args:List Ex} (he:aT (.mk op lit head name hi lo args)=true) {t:Ty} (h:bI p act (.mk op lit head name hi lo args)=.ok t) (hf:t.free=true):
  (op=1∧args= [])∨(op≠1∧∃ a,args= [a]∧aT a=true∧bI p act a=.ok t):=by
 have hn:op=1→args= []:=fun e=>by
  subst e
  simp only [aT,Bn] at he
  have:=he.1.1
  simp [fp,bj] at this
  exact this.1.1.1.1
 have hok:=eu hm act _ he t h
 match args,he,h with
 | [],_,h=>exact .inl ⟨uH (by simpa only [bI] using h) hf,rfl⟩
 | [a],he,h=>
  have h1:op≠1:=fun e=>by have:=hn e;simp at this
  refine .inr ⟨h1,a,rfl,?_,?_⟩
  ·simp only [aT,sA,Bn] at he;exact he.2.1
  ·simp only [bI] at h
   split at h
   ·cases h
   ·rename_i s hs
    rw [hs]
    unfold fX at h
    split at h
    ·split at h
     ·rename_i ht
      injection h with h;subst h
      exact absurd ⟨ht,hf⟩ hok.1
     ·cases h
    ·split at h
     ·repeat' split at h
      all_goals first
       |(cases h;done)
       |(injection h with h;subst h;cases hf)
     ·split at h
      ·cases h
      ·exact h
 |a::b::l,he,h=>
  exfalso
  simp only [bI] at h
  split at h
  ·cases h
  ·split at h
   ·unfold gv at h
    split at h
    ·cases h
    ·split at h
     ·cases h
     ·rename_i h2
      injection h with h;subst h;exact h2 hf
   ·split at h
    ·cases h
    ·unfold cI at h
     split at h
     ·repeat' split at h
      all_goals first
       |(cases h;done)
       |(injection h with h;subst h;cases hf)
     ·split at h
      ·split at h
       ·rename_i ht
        injection h with h;subst h
        simp only [Bn] at ht
        exact absurd ⟨ht.1,hf⟩ hok.1
       ·cases h
      ·split at h
       ·cases h
       ·rename_i j hj
        split at h
        ·injection h with h;subst h;cases hf
        ·injection h with h
         subst h
         have:=oe hj
         rw [this] at hf;cases hf
section
open Go Go.RowKit
def ev (w:World) (v:Value):Result Next→Prop
 | .ok (.value u) w'=>w'=w∧u=v
 | .ok .skip w'=>w'=w∧v=undef
 |_=>False
def eF (P:Program) (o:Oper) (a:Act) (w:World) (v:Value):Prop:=ev w v ((execOp a.eval o).run P w)
def fZ (P:Program) (o:Oper) (a:Act) (w1 w2:World) (K:Act→Prop):Prop:=∃ v,eF P o a w1 v∧eF P o a w2 v∧K (a.put o.dst v)
def jj (P:Program) (ops:Array Oper) (w1 w2:World) (Q:Act→Prop):List Oper→Act→Prop
 | [],a=>Q a
 |o::rest,a=>if Region.wanted o (yielded ops a.tmps) then fZ P o a w1 w2 (jj P ops w1 w2 Q rest) else jj P ops w1 w2 Q rest (a.put o.dst undef)
section
variable {P:Program} {ops:Array Oper} {md:Region.Mode} {w1 w2:World}
theorem cm {Q:Act→Prop} {a:Act} (h:Q a):jj P ops w1 w2 Q [] a:=h
theorem bL {Q:Act→Prop} {a:Act} {o:Oper} {rest:List Oper}
  (h:∀ K:Act→Prop,(∀ a,jj P ops w1 w2 Q rest a→K a)→if Region.wanted o (yielded ops a.tmps) then fZ P o a w1 w2 K else K (a.put o.dst undef)):jj P ops w1 w2 Q (o::rest) a:=h _ fun _ h=>h
def YP (P:Program) (ops:Array Oper) (w1 w2:World) (o:Oper) (a:Act) (v:Value):Prop:=
 (Region.wanted o (yielded ops a.tmps)=true∧eF P o a w1 v∧eF P o a w2 v)∨(Region.wanted o (yielded ops a.tmps)=false∧v=undef)
theorem YP.eq {o:Oper} {a a':Act} {v:Value} (he:execOp a'.eval o=execOp a.eval o) (hw:Region.wanted o (yielded ops a'.tmps)=Region.wanted o (yielded ops a.tmps)) (h:YP P ops w1 w2 o a v):YP P ops w1 w2 o a' v:=by
 unfold YP eF at*;rw [he,hw];exact h
theorem YP.put {o:Oper} {a:Act} {v u:Value} {dst:Option Tmp} (hs:∀ cs b,o.op≠ .select cs b) (hd:∀ d,dst=some d→d∉o.looksAt ops) (h:YP P ops w1 w2 o a v):YP P ops w1 w2 o (a.put dst u) v:=
 h.eq (execOp_put o hs a dst u hd) (wanted_put o a dst u hd)
theorem YP.unput {o:Oper} {a:Act} {v u:Value} {dst:Option Tmp} (hs:∀ cs b,o.op≠ .select cs b) (hd:∀ d,dst=some d→d∉o.looksAt ops) (h:YP P ops w1 w2 o (a.put dst u) v):YP P ops w1 w2 o a v:=
 h.eq (execOp_put o hs a dst u hd).symm (wanted_put o a dst u hd).symm
def At (P:Program) (ops:Array Oper) (w1 w2:World) (i:Nat) (K:Act→Prop) (a:Act):Prop:=∃ o v,ops[i]? =some o∧YP P ops w1 w2 o a v∧K (a.put o.dst v)
theorem mq {i:Nat} {o:Oper} {v:Value} {b:Act} {w:World} {K:Act→World→Prop} {Q:Exit→Act→World→Prop} (hw:w=w1∨w=w2) (ho:ops[i]? =some o) (hy:YP P ops w1 w2 o b v) (hK:K (b.put o.dst v) w):wpOp P ops Q i K b w:=by
 unfold wpOp
 simp only [ho]
 rcases hy with ⟨h1,h2,h3⟩|⟨h1,rfl⟩
 ·have h4:eF P o b w v:=by rcases hw with rfl|rfl<;>assumption
  simp only [h1,if_true]
  left
  unfold eF at h4
  unfold Oper.wp
  generalize (execOp b.eval o).run P w=r at*
  cases r with
  |ok x w'=>
   cases x<;>simp only [ev] at h4<;>simp only [Oper.upon]
   ·obtain ⟨rfl,rfl⟩:=h4;exact hK
   ·obtain ⟨rfl,rfl⟩:=h4;exact hK
  |halt x w'=>simp only [ev] at h4
 ·simp only [h1,Bool.false_eq_true,if_false];exact hK
def og (P:Program) (md:Region.Mode) (ops:Array Oper) (w1 w2:World) (n:Nat) (L:Array Bool→Act→Prop):Nat→Array Bool→Act→Prop
 |0,listed,a=>L listed a
 |k+1,listed,a=>(∃ i∈Region.ready md ops listed,i≠n+1)∧∀ i∈Region.ready md ops listed,i≠n+1→i<n∧At P ops w1 w2 i (og P md ops w1 w2 n L k (listed.setIfInBounds i true)) a
theorem sC {n:Nat} {listed:Array Bool} (hs:Region.sinkB md ops n=true) (inv:HeadInv md ops n listed):∀ (d i:Nat),n-i=d→i<n→listed.getD i true=false→n∉Region.ready md ops listed:=by
 intro d
 induction d using Nat.strongRecOn with
 |_ d ih=>
  intro i hd hi hun hr
  obtain ⟨_,on,hon,hall⟩:=mem_ready.1 hr
  obtain ⟨j,hj,hj2⟩:=List.any_eq_true.1 (Bw.1 hs i (List.mem_range.2 hi))
  simp only [Bn,decide_eq_true_eq] at hj2
  obtain ⟨oj,hoj,e,he,hb,heq⟩:=Region.waitsFor_spec hj2.2
  have hjle:=List.mem_range.1 hj
  have hno:∀ o,ops[j]? =some o→e∈o.after→(∀ x∈o.after,Region.binds md x=true→listed.getD x.on false=true)→False:=fun o _ hx hl=>by
   have:=hl e hx hb
   rw [heq,getD_both hun] at this
   cases this
  by_cases hjn:j=n
  ·subst hjn
   have:oj=on:=Option.some.inj (hoj.symm.trans hon)
   subst this
   exact hno _ hoj he hall
  ·cases hl:listed.getD j false with
   |true=>exact hno _ hoj he (inv.closed j oj hoj hl)
   |false=>exact ih (n-j) (by omega) j rfl (by omega) (getD_in (by rw [inv.size];exact (Bs.1 hoj).1) hl) hr
theorem sD {n:Nat} {listed:Array Bool} (h:Region.waitsFor md ops (n+2) n=true) (inv:HeadInv md ops n listed) (hn:n<ops.size):n+2∉Region.ready md ops listed:=fun hr=>by
 obtain ⟨_,o,ho,hall⟩:=mem_ready.1 hr
 obtain ⟨o',ho',e,he,hb,heq⟩:=Region.waitsFor_spec h
 have:o'=o:=Option.some.inj (ho'.symm.trans ho)
 subst this
 have:=hall e he hb
 rw [heq,getD_both (inv.tail n (Bm _) hn)] at this
 cases this
theorem mr {n i j:Nat} {listed:Array Bool} (hs:Region.sinkB md ops n=true) (hl:Region.waitsFor md ops (n+2) n=true) (hz:ops.size=n+3) (inv:HeadInv md ops n listed) (hi:i<n) (hun:listed.getD i true=false)
  (hj:j∈Region.ready md ops listed) (hjf:j≠n+1):j<n:=by
 have hlt:j<ops.size:=by obtain ⟨_,o,ho,_⟩:=mem_ready.1 hj;exact (Bs.1 ho).1
 refine Nat.lt_of_not_le fun h=> ?_
 rcases (show j=n∨j=n+2 by omega) with rfl|rfl
 ·exact sC hs inv _ i rfl hi hun hj
 ·exact sD hl inv (by omega) hj
theorem yE {j:Nat} {oi oj:Oper} {v:Value} {K:Act→Prop} {a:Act} (hj:ops[j]? =some oj) (hap:oi.apart ops oj=true) (hsi:∀ cs b,oi.op≠ .select cs b) (hsj:∀ cs b,oj.op≠ .select cs b)
  (hy:YP P ops w1 w2 oi a v) (h:At P ops w1 w2 j K (a.put oi.dst v)):At P ops w1 w2 j (fun a'=>YP P ops w1 w2 oi a' v∧K (a'.put oi.dst v)) a:=by
 obtain ⟨h1,h2,h3⟩:=Oper.apart_spec hap
 obtain ⟨o,u,ho,hu,hK⟩:=h
 have:o=oj:=Option.some.inj (ho.symm.trans hj)
 subst this
 exact ⟨o,u,ho,hu.unput hsj h1,hy.put hsi h3,by rw [←Act.put_comm a v u h2];exact hK⟩
theorem wW {i:Nat} {a:Act} {K K':Act→Prop} (h:∀ a,K a→K' a) (hh:At P ops w1 w2 i K a):At P ops w1 w2 i K' a:=
 let ⟨o,v,h1,h2,h3⟩:=hh
 ⟨o,v,h1,h2,h _ h3⟩
theorem qs {n i:Nat} {oi:Oper} {v:Value} {L:Array Bool→Act→Prop} (hi:ops[i]? =some oi) (hsel:∀ (j:Nat) (o:Oper) cs b,ops[j]? =some o→o.op≠ .select cs b)
  (hs:Region.sinkB md ops n=true) (hl:Region.waitsFor md ops (n+2) n=true) (hz:ops.size=n+3) (hin:i<n) (hdone:∀ listed a,L listed a→∀ j∈Region.ready md ops listed,n≤j):
  ∀ (f:Nat) (listed:Array Bool) (a:Act),HeadInv md ops n listed→
   (∀ j oj,ops[j]? =some oj→j≠i→listed.getD j true=false→(∀ e∈oj.after,Region.binds md e=true→e.on≠i)→oi.apart ops oj=true)→
   i∈Region.ready md ops listed→YP P ops w1 w2 oi a v→og P md ops w1 w2 n L f (listed.setIfInBounds i true) (a.put oi.dst v)→og P md ops w1 w2 n L (f+1) listed a:=by
 intro f
 induction f with
 |zero=>
  intro listed a inv _ hr hy H
  refine ⟨⟨i,hr,by omega⟩,fun j hj hjf=> ?_⟩
  have hjn:=mr hs hl hz inv hin (mem_ready.1 hr).1 hj hjf
  by_cases e:j=i
  ·subst e;exact ⟨hjn,oi,v,hi,hy,H⟩
  ·exact absurd (hdone _ _ H j (ready_mono hj e)) (by omega)
 |succ f ih=>
  intro listed a inv hfree hr hy H
  have hun:=(mem_ready.1 hr).1
  refine ⟨⟨i,hr,by omega⟩,fun j hj hjf=> ?_⟩
  have hjn:=mr hs hl hz inv hin hun hj hjf
  refine ⟨hjn,?_⟩
  by_cases e:j=i
  ·subst e;exact ⟨oi,v,hi,hy,H⟩
  ·obtain ⟨hjun,oj,hoj,hall⟩:=mem_ready.1 hj
   have hnot:∀ x∈oj.after,Region.binds md x=true→x.on≠i:=fun x hx hb he=>by
    have h1:=hall x hx hb
    rw [he,getD_both hun] at h1
    cases h1
   refine wW (fun a' h3=>ih _ a' (inv.set hj hjn) (fun k ok hk hki hu hno=>hfree k ok hk hki ?_ hno) (ready_mono hr (Ne.symm e)) h3.1 ?_)
    (yE hoj (hfree j oj hoj e hjun hnot) (fun cs b=>hsel i oi cs b hi) (fun cs b=>hsel j oj cs b hoj) hy (H.2 j (ready_mono hj e) hjf).2)
   ·by_cases ejk:j=k
    ·subst ejk;exact hjun
    ·rw [getD_set_ne true ejk] at hu;exact hu
   ·rw [Array.setIfInBounds_comm _ _ e]
    exact h3.2
def sE (md:Region.Mode) (ops:Array Oper) (n:Nat) (listed:Array Bool):Bool:=
 decide (Region.ready md ops listed= [n,n+1])&&Region.seqB md ops 2 (n+1) (listed.setIfInBounds n true)&&decide (Region.ready md ops (listed.setIfInBounds (n+1) true)= [n])&&
  decide (Region.ready md ops ((listed.setIfInBounds (n+1) true).setIfInBounds n true)= [n+2])&&decide (Region.ready md ops (((listed.setIfInBounds (n+1) true).setIfInBounds n true).setIfInBounds (n+2) true)= [])
def wX (md:Region.Mode) (ops:Array Oper) (n:Nat):Nat→Nat→Array Bool→Bool
 |0,_,listed=>sE md ops n listed
 |f+1,k,listed=>(Region.ready md ops listed).contains k&&Region.free md ops listed k&&wX md ops n f (k+1) (listed.setIfInBounds k true)
def wY (md:Region.Mode) (ops:Array Oper) (n:Nat):Bool:=
 Region.noSelect ops&&decide (ops.size=n+3)&&Region.sinkB md ops n&&Region.waitsFor md ops (n+2) n&& !Region.waitsFor md ops n (n+1)&&
  ((List.range n).all fun i=> !Region.waitsFor md ops i (n+1)&&match ops[i]?,ops[n+1]? with
   |some x,some y=>x.apart ops y
   |_,_=>false)&&wX md ops n n 0 (Array.replicate ops.size false)
theorem oh {n:Nat} {T:Act→Prop} (hsel:Region.noSelect ops=true) (hs:Region.sinkB md ops n=true) (hl:Region.waitsFor md ops (n+2) n=true) (hz:ops.size=n+3):
  ∀ (l:List Oper) (k:Nat) (listed:Array Bool) (a:Act),(∀ j,j<l.length→l[j]? =ops[k+j]?)→k+l.length=n→HeadInv md ops n listed→wX md ops n l.length k listed=true→jj P ops w1 w2 T l a→
   og P md ops w1 w2 n (fun x y=>sE md ops n x=true∧T y) l.length listed a
 | [],k,listed,a,_,_,_,hB,h=>⟨by simpa [wX] using hB,h⟩
 |o::l,k,listed,a,hl',hk,inv,hB,h=>by
  have h0:ops[k]? =some o:=by simpa using (hl' 0 (by simp)).symm
  simp only [By,wX,Bn] at hB
  rw [By] at hk
  have hr:k∈Region.ready md ops listed:=by simpa using hB.1.1
  have hd:∀ (x:Array Bool) (b:Act),(sE md ops n x=true∧T b)→∀ j∈Region.ready md ops x,n≤j:=fun x b hx j hj=>by
   have:=hx.1
   simp only [sE,Bn,decide_eq_true_eq] at this
   rw [this.1.1.1.1] at hj
   simp at hj;omega
  have go:∀ v,YP P ops w1 w2 o a v→jj P ops w1 w2 T l (a.put o.dst v)→og P md ops w1 w2 n (fun x y=>sE md ops n x=true∧T y) (l.length+1) listed a:=fun v hy hK=>
   qs h0 (Region.noSelect_spec hsel) hs hl hz (by omega) hd l.length listed a inv (Region.free_spec h0 hB.1.2) hr hy
    (oh hsel hs hl hz l (k+1) _ _ (fun j hj=>by have:=hl' (j+1) (by simpa using hj);simpa [Nat.add_assoc,Nat.add_comm 1 j] using this) (by omega) (inv.set hr (by omega)) hB.2 hK)
  unfold jj at h
  by_cases hw:Region.wanted o (yielded ops a.tmps)=true
  ·rw [if_pos hw] at h
   obtain ⟨v,h1,h2,h3⟩:=h
   exact go v (.inl ⟨hw,h1,h2⟩) h3
  ·rw [if_neg hw] at h
   exact go undef (.inr ⟨by simpa using hw,rfl⟩) h
theorem kR {listed:Array Bool} {i:Nat}:(listed.setIfInBounds i true).getD i true=true:=by
 rcases Nat.lt_or_ge i listed.size with h|h
 ·simp [h]
 ·simp [B8 (show (listed.setIfInBounds i true).size≤i by simpa using h)]
theorem kS {i f:Nat} {listed:Array Bool} (hw:Region.waitsFor md ops i f=false) (h:i∈Region.ready md ops (listed.setIfInBounds f true)):i∈Region.ready md ops listed∧i≠f:=by
 obtain ⟨h0,o,ho,hall⟩:=mem_ready.1 h
 have hne:i≠f:=fun e=>by subst e;rw [kR] at h0;cases h0
 refine ⟨mem_ready.2 ⟨by rw [getD_set_ne true (Ne.symm hne)] at h0;exact h0,o,ho,fun e he hb=> ?_⟩,hne⟩
 have h1:=hall e he hb
 by_cases ef:e.on=f
 ·exfalso
  unfold Region.waitsFor at hw
  rw [ho] at hw
  have:=Array.any_eq_false'.1 hw e he
  simp [hb,ef] at this
 ·rwa [getD_set_ne false (Ne.symm ef)] at h1
theorem ol {n:Nat} {of:Oper} {vf:Value} {L:Array Bool→Act→Prop} {Q:Exit→Act→World→Prop} (hf:ops[n+1]? =some of) (hwf:∀ y,Region.wanted of y=true) (hrun:∀ a:Act,(execOp a.eval of).run P w1=.ok (.value vf) w2)
  (hsel:∀ (j:Nat) (o:Oper) cs b,ops[j]? =some o→o.op≠ .select cs b) (hs:Region.sinkB md ops n=true) (hl:Region.waitsFor md ops (n+2) n=true) (hc:Region.waitsFor md ops n (n+1)=false) (hz:ops.size=n+3)
  (hap:∀ i,i<n→Region.waitsFor md ops i (n+1)=false∧∀ o,ops[i]? =some o→o.apart ops of=true)
  (h1:∀ listed a,L listed a→wpAny P md ops Q 3 listed a w1) (h2:∀ listed a,L listed a→wpAny P md ops Q 2 (listed.setIfInBounds (n+1) true) (a.put of.dst vf) w2):
  ∀ (k:Nat) (listed:Array Bool) (a:Act),HeadInv md ops n listed→og P md ops w1 w2 n L k listed a→wpAny P md ops Q (k+3) listed a w1∧wpAny P md ops Q (k+2) (listed.setIfInBounds (n+1) true) (a.put of.dst vf) w2
 |0,listed,a,_,h=>by
  rw [Nat.zero_add,Nat.zero_add]
  exact ⟨h1 _ _ h,h2 _ _ h⟩
 |k+1,listed,a,inv,h=>by
  have ih:=fun listed' a' inv' h'=>ol hf hwf hrun hsel hs hl hc hz hap h1 h2 k listed' a' inv' h'
  obtain ⟨⟨i0,hi0,hi0f⟩,hall⟩:=h
  have h2':wpAny P md ops Q (k+1+2) (listed.setIfInBounds (n+1) true) (a.put of.dst vf) w2:=by
   rw [show k+1+2=(k+2)+1 by omega]
   refine ⟨fun h0=>(by have:=ready_mono hi0 hi0f;rw [h0] at this;cases this),fun i hi=> ?_⟩
   have hlt:i<n+3:=by obtain ⟨_,o,ho,_⟩:=mem_ready.1 hi;rw [←hz];exact (Bs.1 ho).1
   have hi':i∈Region.ready md ops listed∧i≠n+1:=by
    rcases (show i<n∨i=n∨i=n+1∨i=n+2 by omega) with h|rfl|rfl|rfl
    ·exact kS (hap i h).1 hi
    ·exact kS hc hi
    ·have:=(mem_ready.1 hi).1
     rw [kR] at this
     cases this
    ·obtain ⟨_,o,ho,hal⟩:=mem_ready.1 hi
     obtain ⟨o',ho',e,he,hb,heq⟩:=Region.waitsFor_spec hl
     have:o'=o:=Option.some.inj (ho'.symm.trans ho)
     subst this
     have:=hal e he hb
     rw [heq,getD_set_ne false (by omega),getD_both (inv.tail n (Bm _) (by omega))] at this
     cases this
   obtain ⟨hin,o,v,ho,hy,hK⟩:=hall i hi'.1 hi'.2
   obtain ⟨e1,e2,e3⟩:=Oper.apart_spec ((hap i hin).2 o ho)
   refine mq (.inr rfl) ho (hy.put (fun cs b=>hsel i o cs b ho) e3) ?_
   rw [Array.setIfInBounds_comm _ _ (Ne.symm hi'.2),←Act.put_comm a v vf e2]
   exact (ih _ _ (inv.set hi'.1 hin) hK).2
  refine ⟨?_,h2'⟩
  rw [show k+1+3=(k+3)+1 by omega]
  refine ⟨fun h0=>(by rw [h0] at hi0;cases hi0),fun i hi=> ?_⟩
  by_cases hif:i=n+1
  ·subst hif
   unfold wpOp
   simp only [hf,hwf,if_true]
   left
   unfold Oper.wp
   rw [hrun]
   simp only [Oper.upon]
   exact h2'
  ·obtain ⟨hin,o,v,ho,hy,hK⟩:=hall i hi hif
   exact mq (.inl rfl) ho hy (ih _ _ (inv.set hi hin) hK).1
end
theorem aN {P:Program} {id:Nat} {Q:Exit→Act→World→Prop} {a:Act} {w w2:World} {vf:Value} {l:List Oper} (n:Nat) {oc of os:Oper} (hm:P.follows .mixedOrders=true) (hB:wY .any l.toArray n=true) (hd:l.drop n= [oc,of,os])
  (hwf:∀ y,Region.wanted of y=true) (hrun:∀ a:Act,(execOp a.eval of).run P w.drew=.ok (.value vf) w2)
  (h:jj P l.toArray w.drew w2 (fun a'=>wpList P l.toArray Q [oc,of,os] a' w.drew∧wpList P l.toArray Q [oc,os] (a'.put of.dst vf) w2) (l.take n) a):(Code.region id l.toArray true).wp P Q a w:=by
 simp only [wY,Bn,decide_eq_true_eq,Bool.not_eq_true'] at hB
 obtain ⟨⟨⟨⟨⟨⟨hsel,hz⟩,hs⟩,hl⟩,hc⟩,hap⟩,hlex⟩:=hB
 have hz':l.length=n+3:=by simpa using hz
 have htl:(l.take n).length=n:=by rw [List.length_take];omega
 have at_:∀ j o,[oc,of,os][j]? =some o→l.toArray[n+j]? =some o:=fun j o hj=>by
  rw [←hd,List.getElem?_drop] at hj
  simpa using hj
 have hoc:=at_ 0 oc rfl
 have hof:=at_ 1 of rfl
 have hos:=at_ 2 os rfl
 have hap':∀ i,i<n→Region.waitsFor .any l.toArray i (n+1)=false∧∀ o,l.toArray[i]? =some o→o.apart l.toArray of=true:=fun i hi=>by
  have:=Bw.1 hap i (List.mem_range.2 hi)
  simp only [Bn,Bool.not_eq_true'] at this
  refine ⟨this.1,fun o ho=> ?_⟩
  have h2:=this.2
  rw [ho,hof] at h2
  exact h2
 have inv0:HeadInv .any l.toArray n (Array.replicate l.toArray.size false):=
  ⟨by simp,fun j oj _ hl=>(by rw [getD_replicate_false] at hl;cases hl),fun t _ ht=>getD_in (by simpa using ht) (getD_replicate_false _ _)⟩
 have H:=oh (md:=.any) (w1:=w.drew) (w2:=w2) hsel hs hl hz (l.take n) 0 _ a (fun j hj=>by rw [htl] at hj;simp [hj]) (by simpa using htl) inv0 (by rw [htl];exact hlex) h
 refine wp_region_any hm ?_
 have key:∀ (i:Nat) (o:Oper) (K:Act→World→Prop) (rest:List Oper) (b:Act) (W:World),l.toArray[i]? =some o→wpList P l.toArray Q (o::rest) b W→(∀ b' W',wpList P l.toArray Q rest b' W'→K b' W')→wpOp P l.toArray Q i K b W:=fun i o K rest b W ho hw hK=>by
  refine wpOp_mono hK ?_
  unfold wpOp
  simp only [ho]
  exact hw
 have R:=(ol (md:=.any) (Q:=Q) hof hwf hrun (Region.noSelect_spec hsel) hs hl hc hz hap'
  (fun listed b hL=>by
   have hE:=hL.1
   simp only [sE,Bn,decide_eq_true_eq] at hE
   obtain ⟨⟨⟨⟨e1,e2⟩,e3⟩,e4⟩,e5⟩:=hE
   refine ⟨fun h0=>(by rw [h0] at e1;cases e1),fun i hi=> ?_⟩
   rw [e1] at hi
   rcases (show i=n∨i=n+1 by simpa using hi) with rfl|rfl
   ·refine key i oc _ _ b _ hoc hL.2.1 fun b' W' hb=> ?_
    exact wpAny_of_seq (md:=.any) (Q':=Q) [of,os] (i+1) _ b' W' (fun j=>by
     rcases j with _|_|j
     ·exact hof.symm
     ·exact hos.symm
     ·rw [B8 (by omega)];rfl) e2 hb
   ·unfold wpOp
    simp only [hof,hwf,if_true]
    left
    unfold Oper.wp
    rw [hrun]
    simp only [Oper.upon]
    refine ⟨fun h0=>(by rw [h0] at e3;cases e3),fun i hi=> ?_⟩
    rw [e3] at hi
    obtain rfl:i=n:=by simpa using hi
    refine key i oc _ _ _ _ hoc hL.2.2 fun b' W' hb=> ?_
    refine ⟨fun h0=>(by rw [h0] at e4;cases e4),fun j hj=> ?_⟩
    rw [e4] at hj
    obtain rfl:j=i+2:=by simpa using hj
    exact key (i+2) os _ _ _ _ hos hb fun b'' W'' hb'=>⟨e5,hb'⟩)
  (fun listed b hL=>by
   have hE:=hL.1
   simp only [sE,Bn,decide_eq_true_eq] at hE
   obtain ⟨⟨⟨⟨e1,e2⟩,e3⟩,e4⟩,e5⟩:=hE
   refine ⟨fun h0=>(by rw [h0] at e3;cases e3),fun i hi=> ?_⟩
   rw [e3] at hi
   obtain rfl:i=n:=by simpa using hi
   refine key i oc _ _ _ _ hoc hL.2.2 fun b' W' hb=> ?_
   refine ⟨fun h0=>(by rw [h0] at e4;cases e4),fun j hj=> ?_⟩
   rw [e4] at hj
   obtain rfl:j=i+2:=by simpa using hj
   exact key (i+2) os _ _ _ _ hos hb fun b'' W'' hb'=>⟨e5,hb'⟩)
  _ _ _ inv0 H).1
 rw [htl,←hz] at R
 exact R
end
end Go.Proofs.YtbbdhknagofghaaGreat

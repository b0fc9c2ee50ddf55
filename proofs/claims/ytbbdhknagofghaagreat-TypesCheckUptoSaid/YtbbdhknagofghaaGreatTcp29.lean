import Derived.RangeFuncNested
import Derived.RangeFuncBound
import Derived.LoopIn
import Derived.Test.YtbbdhknagofghaaGreatTcp22
import Derived.OwnWalkIn
import Derived.TacticsInMore
import Derived.LoopNIn
import Derived.Shelf.AbstractIn
import Derived.Test.YtbbdhknagofghaaGreatTcp28
set_option linter.all false
set_option maxHeartbeats 2000000
set_option maxRecDepth 100000
open Go.Proofs.Tryz
namespace Go.Proofs.YtbbdhknagofghaaGreat
open _root_.Go.RowKit.Below renaming refl→Bi
open _root_.Nat renaming le_trans→Bj, le_refl→Bm, zero_le→Bo
open _root_.List renaming getElem?_eq_some_iff→Bp, length_append→Bq, all_eq_true→Bw, length_cons→By, cons_append→BC, nil_append→BH, mem_cons→BI, take_succ_eq_append_getElem→BO, getElem?_cons_succ→BP, mem_cons_of_mem→BT, length_nil→BV, mem_cons_self→BW, flatMap_cons→BZ, getElem?_toArray→B5, getElem?_cons_zero→B6
open _root_.Array renaming getElem?_eq_some_iff→Bs, getElem?_eq_none→B8
open Go.RowKit
section
theorem eC {m n l:Nat} {P:Program} {fn:FuncId} {tmps:Array Value} {assign body:Code} {W:World} {R:Ending→World→Prop} (h:RoundIn Fence.wide m P l fn tmps assign body W R):
  RoundIn Fence.wide n P l fn tmps assign body W R:=⟨trivial,fun c cs _=>h.2 c cs (room_wide _)⟩
structure Kp (ex:TypeId→Bool) (W W':World):Prop where
 os:W'.os=W.os
 tape:W'.tape=W.tape
 output:W'.output=W.output
 size:W.heap.size≤W'.heap.size
 same:∀ (k:Nat) (o:Obj),W.heap[k]? =some o→(∀ cs t fr,o=.cells cs t fr→ex t=false)→W'.heap[k]? =some o
section
variable {ex:TypeId→Bool} {A B C W W':World}
theorem Kp.refl (ex:TypeId→Bool) (W:World):Kp ex W W:=⟨rfl,rfl,rfl,Bm _,fun _ _ h _=>h⟩
theorem Kp.trans (h:Kp ex A B) (k:Kp ex B C):Kp ex A C:=
 ⟨k.os.trans h.os,k.tape.trans h.tape,k.output.trans h.output,Bj h.size k.size,fun i o hi ho=>k.same i o (h.same i o hi ho) ho⟩
theorem Kp.of_below (ex:TypeId→Bool) (h:Below W.heap.size W W'):Kp ex W W':=
 ⟨h.os,h.tape,h.output,h.size,fun k o hk _=>(h.block k (Bs.1 hk).1).trans hk⟩
theorem Kp.of_grown {g:Nat} {cs:Array Value} {t:TypeId} {fr:Nat×Nat} (hg:W.grownBy W' (some g)) (hb:W.heap[g]? =some (.cells cs t fr)) (hex:ex t=true):Kp ex W W':=
 ⟨hg.os,hg.tape,hg.output,hg.size,fun k o hk ho=>by
  by_cases e:k=g
  ·subst e
   rw [hb] at hk;injection hk with hk
   rw [ho _ _ _ hk.symm] at hex;cases hex
  ·exact (hg.block k (Bs.1 hk).1 (fun e'=>e (by injection e'))).trans hk⟩
theorem Kp.other (h:Kp ex W W') {k:Nat} {o:Obj} (hk:W.heap[k]? =some o) (ho:o.isCells=false):W'.heap[k]? =some o:=
 h.same k o hk (fun cs t fr e=>by subst e;cases ho)
theorem Kp.box (h:Kp ex W W') {k:Nat} {t:TypeId} {v:Value} (hk:Boxed W k t v) (ht:ex t=false):Boxed W' k t v:=
 h.same k _ hk (fun cs t' fr e=>by cases e;exact ht)
theorem Kp.own (h:Kp ex W W') {base:Nat} {e:TypeId} {size n:Nat} {v:Value} {xs:List Value} (ho:W.ownsRow base e size v n xs) (ht:ex e=false):W'.ownsRow base e size v n xs:=by
 refine ⟨ho.1,?_⟩
 rcases ho.2 with h2|⟨g,cap,cur,hv,hg,hh,r⟩
 ·exact .inl h2
 ·exact .inr ⟨g,cap,cur,hv,hg,h.same _ _ hh (fun cs t' fr e=>by cases e;exact ht),r⟩
theorem rF {β:Type} (base:Nat) (e:TypeId) (size:Nat) (v:Value) (n:Nat) (xs:List Value):Own (fun (_:β) W=>W.ownsRow base e size v n xs):=fun _ X Y row hs hg hr=>by
 refine ⟨hs.1,?_⟩
 rcases hs.2 with h2|⟨g,cap,cur,hv,hb,hh,r⟩
 ·exact .inl h2
 ·exact .inr ⟨g,cap,cur,hv,hb,(grownBy_keeps_cells hg hr hh rfl).trans hh,r⟩
end
def zp (D:Nat):Deferred:= { target:=.collected D,args:=#[]}
def gm (B:Nat) (Ds:List Nat) (W:World):Prop:=Ds.Nodup∧∀ D∈Ds,B≤D∧W.heap[D]? =some (.deferred (some []))
theorem gm.nil (B:Nat) (W:World):gm B [] W:=⟨List.nodup_nil,fun _ h=>by simp at h⟩
theorem gm.kp {ex:TypeId→Bool} {B:Nat} {Ds:List Nat} {W W':World} (h:gm B Ds W) (hk:Kp ex W W'):gm B Ds W':=⟨h.1,fun D hD=>⟨(h.2 D hD).1,hk.other (h.2 D hD).2 rfl⟩⟩
theorem gm.cons {B D:Nat} {Ds:List Nat} {W W':World} (h:gm B Ds W) (hB:B≤W.heap.size) (hD:W.heap.size≤D) (hW:W'.heap[D]? =some (.deferred (some []))) (hk:∀ E∈Ds,W'.heap[E]? =some (.deferred (some []))):gm B (D::Ds) W':=
 ⟨List.nodup_cons.2 ⟨fun hm=>by have:=(Bs.1 (h.2 D hm).2).1;omega,h.1⟩,fun E hE=>by
  rcases BI.1 hE with rfl|hE
  ·exact ⟨by omega,hW⟩
  ·exact ⟨(h.2 E hE).1,hk E hE⟩⟩
theorem eI {n B:Nat} {P:Program} {fn:Func} {tmps:Array Value} {R:Ending→World→Prop} (J:World→Prop) (hJ:OwnFrom B (fun (_:Unit) W=>J W))
  (hend:∀ W,J W→LeavesIn Fence.wide n P fn tmps R [] .returning W):∀ (Ds:List Nat) (W:World),gm B Ds W→J W→LeavesInM Fence.wide n P fn tmps R (Ds.map zp) .returning W
 | [],W,_,h=>hend W h
 |D::Ds,W,hm,h=>by
  have hD:=hm.2 D BW
  refine ⟨by simp,.inl ⟨D,_,rfl,run_takeDeferred hD.2,?_⟩⟩
  have hn:=List.nodup_cons.1 hm.1
  refine eI J hJ hend Ds _ ⟨hn.2,fun E hE=>⟨(hm.2 E (BT _ hE)).1,?_⟩⟩ (hJ.putObj (s:=()) _ h hD.1 hD.2 rfl)
  rw [World.putObj_heap_other (show E≠D from fun e=>hn.1 (by rw [←e];exact hE))]
  exact (hm.2 E (BT _ hE)).2
theorem vI {ex:TypeId→Bool} {W W':World} {l:Nat} {o o':Obj} (h:Kp ex (W.putObj l o) W') (hl:W.heap[l]? =some o'):
  Kp ex W (W'.putObj l o'):=by
 refine ⟨h.os,h.tape,h.output,by simpa using h.size,fun k x hk hx=> ?_⟩
 by_cases e:k=l
 ·subst e
  rw [hl] at hk;injection hk with hk;subst hk
  refine World.putObj_heap_same ?_
  have:=h.size;simp at this
  have:=(Bs.1 hl).1
  omega
 ·rw [World.putObj_heap_other e]
  exact h.same k x (by rw [World.putObj_heap_other e];exact hk) hx
end
def Ad (P:Program) (l:Nat) (v:Value) (W:World) (c:Bool) (R S:World→Prop):Prop:=
 ∃ m,YieldAt Fence.wide m P l #[v] W fun e W'=>e=.returned (.bool c)∧(c=true→R W')∧(c=false→S W')
def pQ {α:Type} (P:Program) (gf:Nat) (lb:Array Value) (R:α→Value→World→Prop) (ex:TypeId→Bool) (xs:List α) (go:α→Bool) (K:World→Prop) (w:World):Prop:=
 ∀ (l:Nat) (J S:Nat→World→Prop) (W:World),Below w.heap.size w W→OwnFrom W.heap.size J→OwnFrom W.heap.size S→(∀ k W',J k W'→K W')→
  (∀ k x v W1,xs[k]? =some x→J k W1→R x v W1→Ad P l v W1 (go x) (fun W'=>J (k+1) W'∧Kp ex W1 W') (S k))→
  J 0 W→Calls P gf (#[.func (.yield l) #[] #[]]++lb) W fun e W'=>(∃ v,e=.returned v)∧((J xs.length W'∧Kp ex W W')∨∃ k,k<xs.length∧S k W')
theorem oQ {α:Type} {n:Nat} {P:Program} {g:Operand} {ps:Array Tmp} {assign body:Code} {Q:Exit→Act→World→Prop} {a:Act} {w w0:World} {gf:Nat} {lb:Array Value}
  {R:α→Value→World→Prop} {ex:TypeId→Bool} {xs:List α}
  (hg:a.eval g=.func (.func gf) #[] lb) (eg:∀ args w,(callFunc gf args).run P w=.ok (.enter gf args) w) {go:α→Bool} {K:World→Prop} (hseq:pQ P gf lb R ex xs go K w0) (hb0:Below w0.heap.size w0 w) (hps:ps.size=1)
  (hR:∀ x v,OwnFrom w.heap.size (fun (_:Unit) W=>R x v W)) (I Ix:Nat→World→Prop) (hI:OwnFrom w.heap.size I) (hIx:OwnFrom w.heap.size Ix) (hIK:∀ k W',I k W'→K W') (h0:I 0 w) (a₁:Value→World→Act) (W₁:Value→World→World) (hW₁:∀ v W,Below W.heap.size W (W₁ v W))
  (hassign:∀ (l:Nat) (x:α) (v:Value) (W:World) (K:Act→World→Prop),R x v W→K (a₁ v W) (W₁ v W)→
   assign.wpIn (Fence.wide.inRound l) n P (Exit.then K (fun _ _ _=>False)) { tmps:=(ps.zip #[v]).foldl (fun t (p,v)=>t.setIfInBounds p v) a.tmps,defers:= []} W)
  (hbody:∀ (l k:Nat) (x:α) (v:Value) (W0 W:World),w.heap.size≤l→xs[k]? =some x→R x v W0→(∀ (k:Nat) (o:Obj),(W₁ v W0).heap[k]? =some o→o.isCells=true→W.heap[k]? =some o)→I k W→R x v W→
   body.wpIn (Fence.wide.inRound l) n P (fun e _ W'=>(e=.normal∧go x=true∧Kp ex W W'∧I (k+1) W')∨(e=.ret∧go x=false∧Kp ex W W'∧Ix k W')) (a₁ v W0) W)
  (hdone:∀ (D:Nat) (W:World),D=w.heap.size→I xs.length W→W.heap[D]? =some (.deferred (some []))→Kp ex w W→Q .normal { a with defers:=zp D::a.defers} W)
  (hstop:∀ (D k:Nat) (W:World),D=w.heap.size→k<xs.length→Ix k W→W.heap[D]? =some (.deferred (some []))→Code.ret.wpIn Fence.wide n P Q { a with defers:=zp D::a.defers} W):
  (Code.rangeFunc g ps assign body).wpIn Fence.wide n P Q a w:=by
 refine wpIn_rangeFunc ?_
 intro fn hfn
 obtain ⟨rec,hrec⟩:∃ rec:LoopState→Option Code→Loop,rec=fun st pe=> { state:=st,pending:=pe,fn,tmps:=a.tmps,params:=ps,assign,body,defers:=w.heap.size}:=⟨_,rfl⟩
 have hps':∀ st pe,(rec st pe).params=ps:=fun st pe=>by rw [hrec]
 obtain ⟨W1,hW1⟩:∃ W1,(w.alloc (.deferred (some []))).alloc (.loop (rec .ready none))=W1:=⟨_,rfl⟩
 have bW1:Below w.heap.size w W1:=by rw [←hW1];exact ((Bi _ w).alloc (Bm _) _).alloc (by simp) _
 have sW1:W1.heap.size=w.heap.size+2:=by rw [←hW1];simp
 have hL1:W1.heap[w.heap.size+1]? =some (.loop (rec .ready none)):=by
  rw [←hW1];have:=World.alloc_heap_new (w.alloc (.deferred (some []))) (.loop (rec .ready none));rwa [World.size_alloc] at this
 have hK1:W1.heap[w.heap.size]? =some (.deferred (some [])):=by
  rw [←hW1];exact (Below.heap_alloc _ _ _ (by simp)).trans (World.alloc_heap_new w _)
 have hI1:I 0 W1:=by rw [←hW1];exact hI.alloc _ (hI.alloc _ h0)
 refine ⟨w.heap.size+1,[zp w.heap.size],W1, { target:=.fn (.func gf) lb,args:=#[.func (.yield (w.heap.size+1)) #[] #[]]},W1,gf,#[.func (.yield (w.heap.size+1)) #[] #[]]++lb,W1,?_,?_,?_,?_,fun h=>absurd h (by simp [Fence.wide]),?_⟩
 ·rw [←hW1,hrec];exact run_enterLoop_outer _ _ _ _ _
 ·simp only [resolve,hg]
  simp [go_sem]
 ·intro f' _;exact trivial
 ·simp [invoke,go_sem,eg]
 ·have own3:∀ (st:LoopState) (pe:Option Code) (X:Nat→World→Prop),OwnFrom w.heap.size X→OwnFrom W1.heap.size (fun k W=>X k W∧W.heap[w.heap.size+1]? =some (.loop (rec st pe))∧W.heap[w.heap.size]? =some (.deferred (some []))∧Kp ex w W):=by
   intro st pe X hX s A B row hs hg' hr
   obtain ⟨i1,i2,i3,i4⟩:=hs
   have far:∀ k,k<W1.heap.size→B.heap[k]? =A.heap[k]? ∨A.heap[k]? =none:=fun k hk=>by
    by_cases hlt:k<A.heap.size
    ·exact .inl (hg'.block k hlt (fun e=>by have:=(hr _ e.symm).1;omega))
    ·exact .inr (B8 (by omega))
   refine ⟨hX s A B row i1 hg' (fun r e=>⟨by have:=(hr r e).1;omega,(hr r e).2⟩),?_,?_,?_⟩
   ·rcases far (w.heap.size+1) (by omega) with h|h
    ·rw [h];exact i2
    ·rw [i2] at h;cases h
   ·rcases far w.heap.size (by omega) with h|h
    ·rw [h];exact i3
    ·rw [i3] at h;cases h
   ·refine ⟨hg'.os.trans i4.os,hg'.tape.trans i4.tape,hg'.output.trans i4.output,Bj i4.size hg'.size,fun k o hk ho=> ?_⟩
    have hkw:=(Bs.1 hk).1
    have hA:=i4.same k o hk ho
    rcases far k (by omega) with h|h
    ·rw [h];exact hA
    ·rw [hA] at h;cases h
  have own2:OwnFrom W1.heap.size (fun k W=>Ix k W∧W.heap[w.heap.size+1]? =some (.loop (rec .done (some .ret)))∧W.heap[w.heap.size]? =some (.deferred (some []))):=by
   intro s A B row hs hg' hr
   obtain ⟨i1,i2,i3⟩:=hs
   have far:∀ k,k<W1.heap.size→B.heap[k]? =A.heap[k]? ∨A.heap[k]? =none:=fun k hk=>by
    by_cases hlt:k<A.heap.size
    ·exact .inl (hg'.block k hlt (fun e=>by have:=(hr _ e.symm).1;omega))
    ·exact .inr (B8 (by omega))
   refine ⟨hIx s A B row i1 hg' (fun r e=>⟨by have:=(hr r e).1;omega,(hr r e).2⟩),?_,?_⟩
   ·rcases far (w.heap.size+1) (by omega) with h|h
    ·rw [h];exact i2
    ·rw [i2] at h;cases h
   ·rcases far w.heap.size (by omega) with h|h
    ·rw [h];exact i3
    ·rw [i3] at h;cases h
  refine callsIn_wide.2 ((hseq (w.heap.size+1) (fun k W=>I k W∧W.heap[w.heap.size+1]? =some (.loop (rec .ready none))∧W.heap[w.heap.size]? =some (.deferred (some []))∧Kp ex w W)
   (fun k W=>Ix k W∧W.heap[w.heap.size+1]? =some (.loop (rec .done (some .ret)))∧W.heap[w.heap.size]? =some (.deferred (some []))) W1 (hb0.trans (bW1.mono hb0.size)) (own3 _ _ _ hI) own2 (fun k W' h=>hIK k W' h.1) ?_
   ⟨hI1,hL1,hK1,Kp.of_below ex bW1⟩).mono ?_)
  ·rintro k x v W hx ⟨hi,hl,hk,hkp⟩ hr
   have hlt:w.heap.size+1<W.heap.size:=(Bs.1 hl).1
   have hy:=run_yield (P:=P) (args:=#[v]) hl (by rw [hps',hps];rfl)
   refine ⟨n,(rec .ready none).fn,_,(rec .ready none).assign,(rec .ready none).body,hy,?_⟩
   have e1:(rec .ready none).fn=fn:=by rw [hrec]
   have e2:(rec .ready none).assign=assign:=by rw [hrec]
   have e3:(rec .ready none).body=body:=by rw [hrec]
   have e4:(rec .ready none).tmps=a.tmps:=by rw [hrec]
   rw [e1,e2,e3,e4,hps']
   refine roundIn_of_wpIn hfn (hassign _ x v W _ hr ?_)
   have hst:(rec .ready none).state=.ready:=by rw [hrec]
   have bX:=hW₁ v W
   obtain ⟨X,hX⟩:∃ X,W₁ v W=X:=⟨_,rfl⟩
   have hkeep:∀ (k:Nat) (o:Obj),(W₁ v W).heap[k]? =some o→o.isCells=true→(X.putObj (w.heap.size+1) (.loop (rec .busy none))).heap[k]? =some o:=fun k o hko hoc=>by
    rw [hX] at hko
    rw [World.putObj_heap_other (show k≠w.heap.size+1 from fun e=> ?_)]
    ·exact hko
    ·subst e
     have:=(hX ▸ bX).block (w.heap.size+1) hlt
     rw [this,hl] at hko
     injection hko with hko
     subst hko
     cases hoc
   rw [hX] at bX ⊢
   have hlX:X.heap[w.heap.size+1]? =some (.loop (rec .ready none)):=(bX.block _ hlt).trans hl
   have hkX:X.heap[w.heap.size]? =some (.deferred (some [])):=(bX.block _ (by omega)).trans hk
   have hgX:W.grownBy X none:=⟨bX.os,bX.tape,bX.output,bX.size,fun i hi _=>bX.block i hi⟩
   have hiX:I k X:=hI k W X none hi hgX (fun r e=>by cases e)
   have hrX:R x v X:=hR x v () W X none hr hgX (fun r e=>by cases e)
   have hltX:w.heap.size+1<X.heap.size:=(Bs.1 hlX).1
   refine ⟨_,run_beginRound hlX hst,?_⟩
   have eb:({ rec .ready none with state:=.busy}:Loop)=rec .busy none:=by rw [hrec]
   rw [eb]
   have hl2:(X.putObj (w.heap.size+1) (.loop (rec .busy none))).heap[w.heap.size+1]? =some (.loop (rec .busy none)):=World.putObj_heap_same hltX
   refine wpIn_mono (hbody _ k x v W _ (by omega) hx hr hkeep (hI.putObj _ hiX (by omega) hlX rfl) ((hR x v).putObj (s:=()) _ hrX (by omega) hlX rfl)) ?_
   rintro e a3 W3 (⟨rfl,hgo,hk3,hi3⟩|⟨rfl,hgo,hk3,hi3⟩)
   ·have hl3:=hk3.other hl2 rfl
    have hr3:=run_endRound (P:=P) none hl3
    have ec:({ rec .busy none with state:=if (none:Option Code).isNone then .ready else .done,pending:=none}:Loop)=rec .ready none:=by rw [hrec];rfl
    rw [ec] at hr3
    have kp3:=vI hk3 hlX
    have kp4:=(Kp.of_below ex bX).trans kp3
    have hlt3:w.heap.size+1<W3.heap.size:=(Bs.1 hl3).1
    exact ⟨_,_,hr3,by rw [hgo];rfl,fun _=>⟨⟨hI.putObj _ hi3 (by omega) hl3 rfl,World.putObj_heap_same hlt3,kp3.other hkX rfl,hkp.trans kp4⟩,kp4⟩,fun h=>by rw [hgo] at h;cases h⟩
   ·have hl3:=hk3.other hl2 rfl
    have hr3:=run_endRound (P:=P) (some .ret) hl3
    have ec:({ rec .busy none with state:=if (some Code.ret).isNone then .ready else .done,pending:=some .ret}:Loop)=rec .done (some .ret):=by rw [hrec];rfl
    rw [ec] at hr3
    have hlt3:w.heap.size+1<W3.heap.size:=(Bs.1 hl3).1
    exact ⟨_,_,hr3,by rw [hgo];rfl,fun h=>(by rw [hgo] at h;cases h),fun _=>⟨hIx.putObj _ hi3 (by omega) hl3 rfl,World.putObj_heap_same hlt3,(World.putObj_heap_other (by omega)).trans (hk3.other ((World.putObj_heap_other (by omega)).trans hkX) rfl)⟩⟩
  ·rintro e W2 ⟨⟨v,rfl⟩,hJS⟩
   have kpo:∀ (pe:Option Code) (st:LoopState) (o:Obj),W2.heap[w.heap.size+1]? =some (.loop (rec st pe))→Kp ex w W2→Kp ex w (W2.putObj (w.heap.size+1) o):=fun pe st o hl hkp=>by
    refine ⟨hkp.os,hkp.tape,hkp.output,by simpa using hkp.size,fun k o hk' ho=> ?_⟩
    have:=(Bs.1 hk').1
    rw [World.putObj_heap_other (by omega)]
    exact hkp.same k o hk' ho
   rcases hJS with ⟨⟨hi,hl,hk,hkp⟩,_⟩|⟨k,hkl,hi,hl,hk⟩
   ·have hst:(rec .ready none).state≠ .busy:=by rw [hrec];simp
    have hr2:=run_endLoop (P:=P) hl hst
    have hp:(rec .ready none).pending=none:=by rw [hrec]
    rw [hp] at hr2
    exact ⟨none,_,hr2,hdone _ _ rfl (hI.putObj _ hi (by omega) hl rfl) ((World.putObj_heap_other (by omega)).trans hk) (kpo _ _ _ hl hkp)⟩
   ·have hst:(rec .done (some .ret)).state≠ .busy:=by rw [hrec];simp
    have hr2:=run_endLoop (P:=P) hl hst
    have hp:(rec .done (some .ret)).pending=some .ret:=by rw [hrec]
    rw [hp] at hr2
    exact ⟨some .ret,_,hr2,hstop _ k _ rfl hkl (hIx.putObj _ hi (by omega) hl rfl) ((World.putObj_heap_other (by omega)).trans hk)⟩
section
attribute [local go_sem] Oper.semAt_some
def AN (x:It) (scs:List Value):List Value:=.int .u8 x.kind:: .int .i64 x.a:: .int .i64 x.b::scs
def Au:List Value:= [.int .u8 0,.string aB,.string aB,.int .u8 0,.int .i64 0,.int .u64 0,.int .u64 0,.string aB,.string aB,.int .i64 0,.int .i64 0,.slice none 0 0,.slice none 0 0,.slice none 0 0]
theorem rG (w:World) (B:Nat):dR w B Au de:=by
 have he:dL w B (uA 0 fW aB aB 0 0 none ([]:List Ex).length 0) AX:=RE.intro ⟨by unfold u8;omega,by unfold em fW nz ei;simp,by decide,by decide,by unfold nz;omega,by unfold nz;omega⟩ (by simp [bC,sm]) Sl.nil_
 exact RS.intro (thn:= []) (els:= []) (A:=none) (A':=none) (cap:=0) (cap':=0) ⟨by unfold u8;omega,by decide,by decide⟩ ⟨Bo _,Bo _⟩ he Sl.nil_ Sl.nil_
def AG (B:Nat) (x:It) (v:Value) (W:World):Prop:=∃ cs:List Value,v=.agg cs.toArray∧oL W B cs x
theorem jK (B:Nat) (kind a b:Int) (W:World):AG B ⟨kind,a,b,de⟩ (.agg #[.int .u8 kind,.int .i64 a,.int .i64 b,.int .u8 0,.string (ByteArray.mk #[]),.string (ByteArray.mk #[]),.int .u8 0,.int .i64 0,.int .u64 0,.int .u64 0,.string (ByteArray.mk #[]),.string (ByteArray.mk #[]),.int .i64 0,.int .i64 0,.slice none 0 0,.slice none 0 0,.slice none 0 0]) W:=
 ⟨_,rfl,_,rfl,rG W B⟩
def lv:TypeId→Bool:=fun t=>t==3 ||t==33 ||t==36 ||t==49
def bK (g:Nat→Bool) (j n:Nat):Bool:=(List.range n).all fun i=>g (j+i)
theorem iw (g:Nat→Bool) (j:Nat):bK g j 0=true:=rfl
theorem cW (g:Nat→Bool) (j a b:Nat):bK g j (a+b)=(bK g j a&&bK g (j+a) b):=by
 unfold bK
 rw [List.range_add,List.all_append,List.all_map]
 congr 2
 funext i
 simp [Nat.add_assoc]
theorem jL (g:Nat→Bool) (j:Nat):bK g j 1=g j:=by simp [bK]
theorem oR (g:Nat→Bool) (j a:Nat):bK g j (a+1)=(bK g j a&&g (j+a)):=by rw [cW,jL]
theorem dZ {g:Nat→Bool} {j a n:Nat} (h:bK g j a=false) (hn:a≤n):bK g j n=false:=by
 obtain ⟨b,rfl⟩:=Nat.exists_eq_add_of_le hn
 rw [cW,h];rfl
def Yl (l:Nat) (B:Nat) (xs:List It) (g:Nat→Bool) (J S:Nat→World→Prop):Prop:=
 ∀ k x v W1,xs[k]? =some x→J k W1→AG B x v W1→Ad prog l v W1 (g k) (fun W'=>J (k+1) W'∧Kp lv W1 W') (S k)
def eJ (n:Nat) (g:Nat→Bool) (J S:Nat→World→Prop) (W:World) (j m:Nat) (e:Ending) (W':World):Prop:=
 e=.returned (.bool (bK g j m))∧(bK g j m=true→J (j+m) W'∧Kp lv W W')∧(bK g j m=false→∃ k,k<n∧S k W')
theorem fK {n:Nat} {g:Nat→Bool} {J S:Nat→World→Prop} {W W':World} {j m:Nat} (h:bK g j m=true) (hJ:J (j+m) W') (hk:Kp lv W W'):eJ n g J S W j m (.returned (.bool true)) W':=
 ⟨by rw [h],fun _=>⟨hJ,hk⟩,fun h'=>by rw [h] at h';cases h'⟩
theorem dK {n:Nat} {g:Nat→Bool} {J S:Nat→World→Prop} {W W':World} {j m:Nat} (h:bK g j m=false) (hS:∃ k,k<n∧S k W'):eJ n g J S W j m (.returned (.bool false)) W':=
 ⟨by rw [h],fun h'=>(by rw [h] at h';cases h'),fun _=>hS⟩
theorem cY {B:Nat} {J:Nat→World→Prop} (h:OwnFrom B J) {k:Nat} {W W':World} (hs:J k W) (hb:Below W.heap.size W W'):J k W':=
 h k W W' none hs ⟨hb.os,hb.tape,hb.output,hb.size,fun i hi _=>hb.block i hi⟩ (fun r e=>by cases e)
def kA (s n:Nat) (a:Act) (_:World):Nat:=match a.tmps[s]? with
 |some (Value.int _ x)=>((n:Int)-x).toNat
 |_=>0
theorem d9 {l B:Nat} {xs:List It} {g:Nat→Bool} {J S:Nat→World→Prop} (hY:Yl l B xs g J S) (kind a:Int) (n j:Nat) (hn:n≤9223372036854775807) (h:∀ i:Nat,i<n→xs[j+i]? =some ⟨kind,a,(i:Int),de⟩) (W:World) (hJ:J j W):
  Calls prog 74 #[.int .u8 kind,.int .i64 a,.int .i64 (n:Int),.func (.yield l) #[] #[]] W (eJ xs.length g J S W j n):=by
 refine (callsIn_wide (n:=3)).1 (callsIn_of_wp_marks func74 rfl trivial ?_)
 simp only [ntmps74,List.size_toArray,By,BV,Nat.reduceAdd,Nat.reduceSub,Array.replicate_succ,Array.replicate_zero,List.push_toArray,List.append_toArray,BH,BC]
 gi_wp2
 refine wpIn_loop (fun a1 W'=>∃ (k:Nat) (u9 u12 u13 u14 u15 u16 u17 u18 u19 u20 u21:Value),k≤n∧bK g j k=true∧J (j+k) W'∧Kp lv W W'∧
   a1= { tmps:=#[.int .u8 kind,.int .i64 a,.int .i64 (n:Int),.func (.yield l) #[] #[],undef,undef,undef,undef,.bool false,u9,.int .i64 (n:Int),.int .i64 (k:Int),u12,u13,u14,u15,u16,u17,u18,u19,u20,u21],defers:= []})
   (kA 11 n) ⟨0,undef,undef,undef,undef,undef,undef,undef,undef,undef,undef,undef,Bo _,iw _ _,hJ,Kp.refl _ _,rfl⟩ ?_
 rintro a1 W' ⟨k,u9,u12,u13,u14,u15,u16,u17,u18,u19,u20,u21,hk,hrun,hJ',hkp,rfl⟩
 by_cases hlt:k<n
 ·have hlt1:(k:Int)<(n:Int):=by omega
  obtain ⟨mm,fn,tmps,assign,body,hy,hR⟩:=hY _ _ _ W' (h k hlt) hJ' (jK B kind a (k:Int) W')
  have hx0:=aa (h k hlt)
  have hsuc:=aa (oR g j k)
  have hrun':=aa hrun
  clear h hJ hJ' hrun
  gi_wp2
  refine (eC hR).mono ?_
  rintro e W3 ⟨rfl,h1,h2⟩
  cases hc:g (j+k) with
  |true=>
   obtain ⟨hJ3,hk3⟩:=h1 hc
   have hJN:=aa (show J (j+(k+1)) W3 from hJ3)
   have hkN:=aa (hkp.trans hk3)
   have hrN:=aa (show bK g j (k+1)=true from by rw [hsuc.out,hrun'.out,hc];rfl)
   clear h1 h2 hJ3 hk3 hc
   gi_wp2
   refine ⟨⟨k+1,_,_,_,_,_,_,_,_,_,_,_,by omega,hrN.out,hJN.out,hkN.out,rfl⟩,?_⟩
   simp only [kA,B5,BP,B6]
   omega
  |false=>
   have hS3:=aa (h2 hc)
   have hjk:=aa ((Bp.1 hx0.out).1)
   have hrN:=aa (show bK g j n=false from dZ (a:=k+1) (by rw [hsuc.out,hc];simp) (by omega))
   clear h1 h2 hc
   gi_wp2
   exact ⟨_,results_tmp rfl _ _ _,dK hrN.out ⟨_,hjk.out,hS3.out⟩⟩
 ·have hlt1:¬(k:Int)<(n:Int):=by omega
  have hke:k=n:=by omega
  subst hke
  have hJN:=aa hJ'
  have hkN:=aa hkp
  have hrN:=aa hrun
  clear hJ' hkp h hJ hrun
  gi_wp2
  exact ⟨_,results_tmp rfl _ _ _,fK hrN.out hJN.out hkN.out⟩
end
section
attribute [local go_sem] Oper.semAt_some
theorem tq {l B:Nat} {xs:List It} {g:Nat→Bool} {J S:Nat→World→Prop} (hY:Yl l B xs g J S) (kind:Int) (n:Nat) (hn:n≤9223372036854775807) (j:Nat) (tot len:Nat→Nat) (ht0:tot 0=0) (hts:∀ i,tot (i+1)=tot i+(1+len i)) (fid:Nat) (lb:Array Value)
  (eg:∀ args w,(callFunc fid args).run prog w=.ok (.enter fid args) w) (W:World)
  (h:∀ i:Nat,i<n→xs[j+tot i]? =some ⟨kind,(i:Int),0,de⟩)
  (hin:∀ i:Nat,i<n→∀ W1,J (j+tot i+1) W1→Kp lv W W1→Calls prog fid (#[.int .i64 (i:Int)]++lb) W1 (eJ xs.length g J S W1 (j+tot i+1) (len i))) (hJ:J j W):
  Calls prog 72 #[.int .u8 kind,.int .i64 (n:Int),.func (.yield l) #[] #[],.func (.func fid) #[] lb] W (eJ xs.length g J S W j (tot n)):=by
 have hmono:∀ k i,tot k≤tot (k+i):=fun k i=>by
  induction i with
  |zero=>exact Bm _
  |succ i ih=>rw [←Nat.add_assoc,hts];omega
 replace hmono:=aa hmono
 replace hts:=aa hts
 refine (callsIn_wide (n:=3)).1 (callsIn_of_wp_marks func72 rfl trivial ?_)
 simp only [ntmps72,List.size_toArray,By,BV,Nat.reduceAdd,Nat.reduceSub,Array.replicate_succ,Array.replicate_zero,List.push_toArray,List.append_toArray,BH,BC]
 replace hin:=aa hin
 replace h:=aa h
 gi_wp2
 refine wpIn_loop (fun a1 W'=>∃ (k:Nat) (u9 u12 u13 u14 u15 u16 u17 u18 u19 u20 u21 u22 u23 u24 u25 u26:Value),k≤n∧bK g j (tot k)=true∧J (j+tot k) W'∧Kp lv W W'∧
   a1= { tmps:=#[.int .u8 kind,.int .i64 (n:Int),.func (.yield l) #[] #[],.func (.func fid) #[] lb,undef,undef,undef,undef,.bool false,u9,.int .i64 (n:Int),.int .i64 (k:Int),u12,u13,u14,u15,u16,u17,u18,u19,u20,u21,u22,u23,u24,u25,u26],defers:= []})
   (kA 11 n) ⟨0,undef,undef,undef,undef,undef,undef,undef,undef,undef,undef,undef,undef,undef,undef,undef,undef,Bo _,by rw [ht0];exact iw _ _,by rw [ht0];exact hJ,Kp.refl _ _,rfl⟩ ?_
 rintro a1 W' ⟨k,u9,u12,u13,u14,u15,u16,u17,u18,u19,u20,u21,u22,u23,u24,u25,u26,hk,hrun,hJ',hkp,rfl⟩
 by_cases hlt:k<n
 ·have hlt1:(k:Int)<(n:Int):=by omega
  obtain ⟨mm,fn,tmps,assign,body,hy,hR⟩:=hY _ _ _ W' (h.out k hlt) hJ' (jK B kind (k:Int) 0 W')
  have hjk:=aa ((Bp.1 (h.out k hlt)).1)
  have hsuc:=aa (show bK g j (tot (k+1))=(bK g j (tot k)&&(g (j+tot k)&&bK g (j+tot k+1) (len k))) from by rw [hts.out,cW,cW,jL])
  have hle:=aa (show tot (k+1)≤tot n from by have:=hmono.out (k+1) (n-(k+1));rwa [show k+1+(n-(k+1))=n by omega] at this)
  have hrun':=aa hrun
  have htk:=aa (hts.out k)
  clear h hJ hJ' ht0 hrun
  gi_wp2
  refine (eC hR).mono ?_
  rintro e W3 ⟨rfl,h1,h2⟩
  cases hc:g (j+tot k) with
  |true=>
   obtain ⟨hJ3,hk3⟩:=h1 hc
   have hkN:=aa (hkp.trans hk3)
   have hcall:=aa (hin.out k hlt W3 hJ3 hkN.out)
   replace hc:=aa hc
   clear h1 h2 hJ3 hk3
   gi_wp2_with fail
   refine ⟨trivial,?_⟩
   refine (callsIn_wide.2 hcall.out).mono ?_
   rintro e W4 ⟨rfl,h1,h2⟩
   cases hd:bK g (j+tot k+1) (len k) with
   |true=>
    obtain ⟨hJ4,hk4⟩:=h1 hd
    have hJM:=aa (show J (j+tot (k+1)) W4 from by rw [htk.out,show j+(tot k+(1+len k))=j+tot k+1+len k by omega];exact hJ4)
    have hkM:=aa (hkN.out.trans hk4)
    have hrN:=aa (show bK g j (tot (k+1))=true from by rw [hsuc.out,hrun'.out,hc.out,hd];rfl)
    clear h1 h2 hJ4 hk4 hd
    gi_wp2
    refine ⟨⟨k+1,_,_,_,_,_,_,_,_,_,_,_,_,_,_,_,_,by omega,hrN.out,hJM.out,hkM.out,rfl⟩,?_⟩
    simp only [kA,B5,BP,B6]
    omega
   |false=>
    have hS4:=aa (h2 hd)
    have hrN:=aa (show bK g j (tot n)=false from dZ (a:=tot (k+1)) (by rw [hsuc.out,hd];simp) hle.out)
    clear h1 h2 hd
    gi_wp2
    exact ⟨_,results_tmp rfl _ _ _,dK hrN.out hS4.out⟩
  |false=>
   have hS3:=aa (h2 hc)
   have hrN:=aa (show bK g j (tot n)=false from dZ (a:=tot (k+1)) (by rw [hsuc.out,hc];simp) hle.out)
   clear h1 h2 hc
   gi_wp2_with (refine ⟨(fun _ _=>trivial),?_⟩)
   all_goals exact ⟨_,results_tmp rfl _ _ _,dK hrN.out ⟨_,hjk.out,hS3.out⟩⟩
 ·have hlt1:¬(k:Int)<(n:Int):=by omega
  have hke:k=n:=by omega
  subst hke
  have hJN:=aa hJ'
  have hkN:=aa hkp
  have hrN:=aa hrun
  clear hJ' hkp h hJ hrun ht0
  gi_wp2
  exact ⟨_,results_tmp rfl _ _ _,fK hrN.out hJN.out hkN.out⟩
end
section
attribute [local go_sem] Oper.semAt_some
theorem au {W:World} {k:Nat} {cs:Array Value} {t:TypeId} (h:W.heap[k]? =some (.cells cs t)):∀ i,W.cell? ⟨k,i,none⟩=cs[i]? :=by
 intro i
 simp [World.cell?,h]
theorem xR (a:Int) {L:List St} {k:Nat} (hk:k<L.length):am a L=am a (L.take k)++(cO a L[k]++am a (L.drop (k+1))):=by
 simp only [cf]
 rw [←BZ,←List.flatMap_append,←List.drop_eq_getElem_cons hk,List.take_append_drop]
theorem tt (a:Int) {L:List St} {k:Nat} (hk:k<L.length):(am a (L.take (k+1))).length=(am a (L.take k)).length+(cO a L[k]).length:=by
 rw [BO hk]
 simp only [cf,List.flatMap_append,Bq,BZ,List.flatMap_nil,List.append_nil]
theorem nL (a:Int) (L:List St) (n:Nat):(am a (L.take n)).length≤(am a L).length:=by
 have e:am a L=am a (L.take n)++am a (L.drop n):=by
  simp only [cf]
  rw [←List.flatMap_append,List.take_append_drop]
 rw [e,Bq]
 omega
end
section
attribute [local go_sem ↓] lV jF
theorem Af {P:Program} {ops:Array Oper} {Q:Exit→Act→World→Prop} {i:Nat} {a:Act} {w:World} {K':Act→World→Prop} (h:∀ K:Act→World→Prop,(∀ a w,K' a w→K a w)→wpOp P ops Q i K a w):wpOp P ops Q i K' a w:=h K' fun _ _ h=>h
def fw (x y:Value) (n:Nat) (s5 s6 s8 s9 s10 s11:Value):Act:=
 { tmps:=#[x,y,.pointer (some ⟨n,0,none⟩),.pointer (some ⟨n+1,0,none⟩),.int .i64 0,s5,s6,undef,s8,s9,s10,s11,undef,undef,undef,undef,undef,undef,undef,undef,undef,undef,undef,undef,undef,undef,undef,undef,undef,undef,undef,undef,undef,undef],defers:= []}
structure zq (x y:Value) (ra rb:Array Value) (n:Nat) (wb:World) (l0 l1 l2 l3 l4 l5 l6 l7:Bool) (s5 s6 s8 s9 s10 s11:Value) (g5 g6:Nat) (w:World):Prop where
 hb:Below wb.heap.size wb w
 i0:l0=true→s8=x
 i1:l1=true→s9=.agg ra
 i2:l2=true→s10=y
 i3:l3=true→s11=.agg rb
 i4:l4=true→s5=.pointer (some ⟨g5,0,none⟩)∧wb.heap.size≤g5∧w.heap[g5]? =some (.cells (if l6 then ra else Tryz.zeroCells203) 203 (0,0))
 i5:l5=true→s6=.pointer (some ⟨g6,0,none⟩)∧wb.heap.size≤g6∧w.heap[g6]? =some (.cells (if l7 then rb else Tryz.zeroCells203) 203 (0,0))
 i6:l4=true→l5=true→g5≠g6
 i7:l6=true→l4=true
 i8:l7=true→l5=true
def Ag (x y:Value) (ra rb:Array Value) (n:Nat) (wb:World) (l:Array Bool) (a:Act) (w:World):Prop:=
 ∃ l0 l1 l2 l3 l4 l5 l6 l7 s5 s6 s8 s9 s10 s11 g5 g6,l=#[l0,l1,l2,l3,l4,l5,l6,l7]∧a=fw x y n s5 s6 s8 s9 s10 s11∧zq x y ra rb n wb l0 l1 l2 l3 l4 l5 l6 l7 s5 s6 s8 s9 s10 s11 g5 g6 w
theorem vJ {r:List Nat} {c:Bool} (hr:r= []) (h:(!r.isEmpty ||c)=true):c=true:=by subst hr;simpa using h
theorem ix {w:World} {g:Nat} {o:Obj} (h:w.heap[g]? =some o):g<w.heap.size:=(Bs.1 h).1
theorem zq.mono {x y:Value} {ra rb:Array Value} {n:Nat} {wb w w':World} {l0 l1 l2 l3 l4 l5 l6 l7:Bool} {s5 s6 s8 s9 s10 s11:Value} {g5 g6:Nat} (h:zq x y ra rb n wb l0 l1 l2 l3 l4 l5 l6 l7 s5 s6 s8 s9 s10 s11 g5 g6 w) (hb:Below w.heap.size w w'):zq x y ra rb n wb l0 l1 l2 l3 l4 l5 l6 l7 s5 s6 s8 s9 s10 s11 g5 g6 w':=
 { h with
  hb:=h.hb.trans (hb.mono h.hb.size)
  i4:=fun q=>⟨(h.i4 q).1,(h.i4 q).2.1,(hb.block _ (ix (h.i4 q).2.2)).trans (h.i4 q).2.2⟩
  i5:=fun q=>⟨(h.i5 q).1,(h.i5 q).2.1,(hb.block _ (ix (h.i5 q).2.2)).trans (h.i5 q).2.2⟩}
theorem vK (h1 l1 h2 l2:Int) (w:World) (u1:ei h1) (u2:ei l1) (u3:ei h2) (u4:ei l2):Calls prog 229 #[.agg #[.int .u64 h1,.int .u64 l1],.agg #[.int .u64 h2,.int .u64 l2]] w fun e w'=>e=.returned (.int .i64 (lN (h1*18446744073709551616+l1) (h2*18446744073709551616+l2)))∧Below w.heap.size w w':=by
 have hG:=aa (fun t a b c=>zl (t:=t) u1 u2 u3 u4 a b c)
 have hL:=aa (fun t a b c=>zo (t:=t) u1 u2 u3 u4 a b c)
 have hE:=aa (fun a=>xQ u1 u2 u3 u4 a)
 have hBa:=aa (fun W=>iW h1 l1 W u1 u2)
 have hBb:=aa (fun W=>iW h2 l2 W u3 u4)
 obtain ⟨wa,hwa,hsa,hba,hca,-⟩:=al w #[.int .u64 h1,.int .u64 l1] 40
 obtain ⟨wb,hwb,hsb,hbb,hcb,-⟩:=al wa #[.int .u64 h2,.int .u64 l2] 40
 have y0:wb.cell? ⟨w.heap.size,0,none⟩=some (.int .u64 h1):=(bx hbb w.heap.size 0 (by omega)).trans (hca 0)
 have y1:wb.cell? ⟨w.heap.size,1,none⟩=some (.int .u64 l1):=(bx hbb w.heap.size 1 (by omega)).trans (hca 1)
 have y2:wb.cell? ⟨w.heap.size+1,0,none⟩=some (.int .u64 h2):=by rw [←hsa];exact hcb 0
 have y3:wb.cell? ⟨w.heap.size+1,1,none⟩=some (.int .u64 l2):=by rw [←hsa];exact hcb 1
 have hbw:=aa (hba.trans (hbb.mono (by omega)))
 have hzb:w.heap.size+1<wb.heap.size:=by omega
 clear hca hcb hba hbb
 go_enter func229,ntmps229
 go_upto_region 1 with (fail)
 go_cut [5,6,8,9,10,11] (fun s5 s6 s8 s9 s10 s11 wx=>∃ g5 g6:Nat,s5=.pointer (some ⟨g5,0,none⟩)∧s6=.pointer (some ⟨g6,0,none⟩)∧Hid (wx.heap[g5]? =some (.cells (cG h1 l1 64) 203 (0,0)))∧Hid (wx.heap[g6]? =some (.cells (cG h2 l2 64) 203 (0,0)))∧Hid (Below wb.heap.size wb wx))
 case first=>
  refine wp_region_any (by kernel_rfl) ?_
  refine vH (Ag (.agg #[.int .u64 h1,.int .u64 l1]) (.agg #[.int .u64 h2,.int .u64 l2]) (cG h1 l1 64) (cG h2 l2 64) w.heap.size wb) ?_ ?_ _ _ _ _ (by simp) (by decide) ?_
  ·intro l a w1 i hs hi hI
   obtain ⟨l0,l1',l2',l3,l4,l5,l6,l7,s5,s6,s8,s9,s10,s11,g5,g6,rfl,rfl,hI⟩:=hI
   have hw0:((i==0) ||((i==1)&&l0) ||(i==2) ||((i==3)&&l1'&&l2') ||((i==4)&& !l4) ||((i==5)&& !l5) ||((i==6)&&l4&&l1'&& !l6) ||((i==7)&&l5&&l3&& !l7))=true:=by
    refine (Bw (p:=fun i=>((i==0) ||((i==1)&&l0) ||(i==2) ||((i==3)&&l1'&&l2') ||((i==4)&& !l4) ||((i==5)&& !l5) ||((i==6)&&l4&&l1'&& !l6) ||((i==7)&&l5&&l3&& !l7)))).1 ?_ i hi
    clear hs hI hi
    revert l0 l1' l2' l3 l4 l5 l6 l7
    decide+kernel
   have hw:(i=0)∨(i=1∧l0=true)∨(i=2)∨(i=3∧l1'=true∧l2'=true)∨(i=4∧l4=false)∨(i=5∧l5=false)∨(i=6∧l4=true∧l1'=true∧l6=false)∨(i=7∧l5=true∧l3=true∧l7=false):=by
    simpa [or_assoc,and_assoc] using hw0
   clear hw0
   clear hi hs
   have kb:=ab hI.hb
   have hzw:=hI.hb.size
   refine Af fun K hK=> ?_
   replace hK:=aa hK
   replace hI:=aa hI
   rcases hw with rfl|⟨rfl,q⟩|rfl|⟨rfl,q,q'⟩|⟨rfl,q⟩|⟨rfl,q⟩|⟨rfl,q,q',q''⟩|⟨rfl,q,q',q''⟩
   ·skip
    unfold wpOp fw
    simp only [B5,B6,BP]
    rw [if_pos (by rfl)]
    refine Or.inl ?_
    go_wp2
    exact hK.out _ _ ⟨true,l1',l2',l3,l4,l5,l6,l7,s5,s6,_,s9,s10,s11,g5,g6,rfl,rfl, { hI.out with i0:=fun _=>rfl}⟩
   ·obtain rfl:=hI.out.i0 q
    unfold wpOp fw
    simp only [B5,B6,BP]
    rw [if_pos (by rfl)]
    refine Or.inl ?_
    go_wp2_with fail
    refine (hBa.out _).mono ?_
    rintro e w2 ⟨rfl,hb2⟩
    exact hK.out _ _ ⟨l0,true,l2',l3,l4,l5,l6,l7,s5,s6,_,_,s10,s11,g5,g6,rfl,rfl, { hI.out.mono hb2 with i1:=fun _=>rfl}⟩
   ·skip
    unfold wpOp fw
    simp only [B5,B6,BP]
    rw [if_pos (by rfl)]
    refine Or.inl ?_
    go_wp2
    exact hK.out _ _ ⟨l0,l1',true,l3,l4,l5,l6,l7,s5,s6,s8,s9,_,s11,g5,g6,rfl,rfl, { hI.out with i2:=fun _=>rfl}⟩
   ·obtain rfl:=hI.out.i2 q'
    unfold wpOp fw
    simp only [B5,B6,BP]
    rw [if_pos (by rfl)]
    refine Or.inl ?_
    go_wp2_with fail
    refine (hBb.out _).mono ?_
    rintro e w2 ⟨rfl,hb2⟩
    exact hK.out _ _ ⟨l0,l1',l2',true,l4,l5,l6,l7,s5,s6,s8,s9,_,_,g5,g6,rfl,rfl, { hI.out.mono hb2 with i3:=fun _=>rfl}⟩
   ·skip
    unfold wpOp fw
    simp only [B5,B6,BP]
    rw [if_pos (by rfl)]
    refine Or.inl ?_
    go_wp2
    have hb2:Below w1.heap.size w1 (w1.alloc (.cells Tryz.zeroCells203 203)):=(Bi _ _).alloc (Bm _) _
    have h6:l6=false:=by
     cases h:l6 with
     |false=>rfl
     |true=>have:=hI.out.i7 h;rw [q] at this;cases this
    refine hK.out _ _ ⟨l0,l1',l2',l3,true,l5,l6,l7,_,s6,s8,s9,s10,s11,w1.heap.size,g6,rfl,rfl, { hI.out.mono hb2 with i4:=fun _=>⟨rfl,hzw,?_⟩,i6:=fun _ h5=> ?_,i7:=fun _=>rfl}⟩
    ·rw [h6];exact heap_alloc_last w1 _
    ·have:=ix (hI.out.i5 h5).2.2;omega
   ·skip
    unfold wpOp fw
    simp only [B5,B6,BP]
    rw [if_pos (by rfl)]
    refine Or.inl ?_
    go_wp2
    have hb2:Below w1.heap.size w1 (w1.alloc (.cells Tryz.zeroCells203 203)):=(Bi _ _).alloc (Bm _) _
    have h7:l7=false:=by
     cases h:l7 with
     |false=>rfl
     |true=>have:=hI.out.i8 h;rw [q] at this;cases this
    refine hK.out _ _ ⟨l0,l1',l2',l3,l4,true,l6,l7,s5,_,s8,s9,s10,s11,g5,w1.heap.size,rfl,rfl, { hI.out.mono hb2 with i5:=fun _=>⟨rfl,hzw,?_⟩,i6:=fun h4 _=> ?_,i8:=fun _=>rfl}⟩
    ·rw [h7];exact heap_alloc_last w1 _
    ·have:=ix (hI.out.i4 h4).2.2;omega
   ·obtain ⟨rfl,hg,hh⟩:=hI.out.i4 q
    obtain rfl:=hI.out.i1 q'
    rw [q''] at hh
    have hst:=gg hh rfl (cX _ _ _) (jE h1 l1 64)
    have hat:=ko (C':=cG h1 l1 64) hh
    unfold wpOp fw
    simp only [B5,B6,BP]
    rw [if_pos (by rfl)]
    refine Or.inl ?_
    go_wp2
    refine hK.out _ _ ⟨l0,l1',l2',l3,l4,l5,true,l7,_,s6,s8,_,s10,s11,g5,g6,rfl,rfl, { hI.out with hb:=below_setRow hI.out.hb hg _,i4:=fun _=>⟨rfl,hg,hat⟩,i5:=fun h5=>⟨(hI.out.i5 h5).1,(hI.out.i5 h5).2.1,?_⟩,i7:=fun _=>q}⟩
    rw [mN (Ne.symm (hI.out.i6 q h5))]
    exact (hI.out.i5 h5).2.2
   ·obtain ⟨rfl,hg,hh⟩:=hI.out.i5 q
    obtain rfl:=hI.out.i3 q'
    rw [q''] at hh
    have hst:=gg hh rfl (cX _ _ _) (jE h2 l2 64)
    have hat:=ko (C':=cG h2 l2 64) hh
    unfold wpOp fw
    simp only [B5,B6,BP]
    rw [if_pos (by rfl)]
    refine Or.inl ?_
    go_wp2
    refine hK.out _ _ ⟨l0,l1',l2',l3,l4,l5,l6,true,s5,_,s8,s9,s10,_,g5,g6,rfl,rfl, { hI.out with hb:=below_setRow hI.out.hb hg _,i5:=fun _=>⟨rfl,hg,hat⟩,i4:=fun h4=>⟨(hI.out.i4 h4).1,(hI.out.i4 h4).2.1,?_⟩,i8:=fun _=>q}⟩
    rw [mN (hI.out.i6 h4 q)]
    exact (hI.out.i4 h4).2.2
  ·intro l a w1 hs hr hI
   obtain ⟨l0,l1',l2',l3,l4,l5,l6,l7,s5,s6,s8,s9,s10,s11,g5,g6,rfl,rfl,hI⟩:=hI
   have hw:l4=true∧l5=true∧l6=true∧l7=true:=by
    have hq:(l4&&l5&&l6&&l7)=true:=by
     refine vJ hr ?_
     clear hs hI hr
     revert l0 l1' l2' l3 l4 l5 l6 l7
     decide+kernel
    simpa [and_assoc] using hq
   obtain ⟨rfl,rfl,rfl,rfl⟩:=hw
   obtain ⟨rfl,hg5,hh5⟩:=hI.i4 rfl
   obtain ⟨rfl,hg6,hh6⟩:=hI.i5 rfl
   simp only [fw]
   go_wp2
   go_meet
   exact ⟨g5,g6,rfl,rfl,aa hh5,aa hh6,aa hI.hb⟩
  ·exact ⟨false,false,false,false,false,false,false,false,undef,undef,undef,undef,undef,undef,0,1,rfl,rfl,⟨⟨rfl,rfl,rfl,Bm _,fun _ _=>rfl⟩,nofun,nofun,nofun,nofun,nofun,nofun,nofun,nofun,nofun⟩⟩
 case rest=>
  obtain ⟨g5,g6,rfl,rfl,hg5,hg6,hbx⟩:=hcut
  have hlt5:=ix hg5.out
  have hlt6:=ix hg6.out
  have hBw:=aa (hbw.out.trans (hbx.out.mono (by omega)))
  have c5:=aa (fun t (ht:t<128)=>(au hg5.out t).trans (uk h1 l1 ht))
  have c6:=aa (fun t (ht:t<128)=>(au hg6.out t).trans (uk h2 l2 ht))
  clear hg5 hg6 hbx hbw hBa hBb y0 y1 y2 y3 hwa hwb hsa hsb hzb u1 u2 u3 u4
  go_wp2
  obtain ⟨wx,rfl⟩:∃ wx:World,wx=wc:=⟨_,rfl⟩
  go_loopw [7] (fun i wr=>∃ j:Nat,j≤128∧(∃ i':Int,i=.int .i64 i'∧i'=(j:Int)-1)∧wr=wx∧Hid (∀ s,j≤s→s<128→kz h1 l1 s=kz h2 l2 s)) (fun i _=>(intOf i+1).toNat)
  case atStart=>exact ⟨128,Bm _,⟨_,rfl,by decide⟩,rfl,aa (fun s h g=>by omega)⟩
  case round=>
   obtain ⟨j,hj,⟨i',rfl,hi'⟩,rfl,heq⟩:=hrel
   cases j with
   |succ t=>
    obtain rfl:i'=(t:Int):=by omega
    clear hi'
    have htz:(0:Int)≤(t:Int):=by omega
    have ht128:(t:Int)<128:=by omega
    have d5:=c5.out t (by omega)
    have d6:=c6.out t (by omega)
    have hab:=fun s (h:t<s) (h':s<128)=>heq.out s h h'
    cases e1:kz h1 l1 t with
    |true=>
     cases e2:kz h2 l2 t with
     |true=>
      have hn:=aa (fun s (h:t≤s) (h':s<128)=>show kz h1 l1 s=kz h2 l2 s from by
       rcases Nat.eq_or_lt_of_le h with rfl|h
       ·rw [e1,e2]
       ·exact hab s h h')
      rw [e1] at d5
      rw [e2] at d6
      clear hab e1 e2
      go_wp2
      go_roundw
      case rel=>exact ⟨t,by omega,⟨_,rfl,rfl⟩,by first|rfl|trivial,hn⟩
      case measure=>simp [intOf]
     |false=>
      have hv:=aa (hG.out t e1 e2 hab)
      rw [e1] at d5
      rw [e2] at d6
      clear hab e1 e2
      go_wp2
      go_ret
      exact ⟨by rw [hv.out];rfl,hBw.out⟩
    |false=>
     cases e2:kz h2 l2 t with
     |true=>
      have hv:=aa (hL.out t e1 e2 hab)
      rw [e1] at d5
      rw [e2] at d6
      clear hab e1 e2
      go_wp2
      go_ret
      exact ⟨by rw [hv.out];rfl,hBw.out⟩
     |false=>
      have hn:=aa (fun s (h:t≤s) (h':s<128)=>show kz h1 l1 s=kz h2 l2 s from by
       rcases Nat.eq_or_lt_of_le h with rfl|h
       ·rw [e1,e2]
       ·exact hab s h h')
      rw [e1] at d5
      rw [e2] at d6
      clear hab e1 e2
      go_wp2
      go_roundw
      case rel=>exact ⟨t,by omega,⟨_,rfl,rfl⟩,by first|rfl|trivial,hn⟩
      case measure=>simp [intOf]
   |zero=>
    obtain rfl:i'= -1:=by omega
    have hv:=aa (hE.out fun s h=>heq.out s (Bo _) h)
    clear heq hi' hj
    go_wp2
    go_ret
    exact ⟨by rw [hv.out];rfl,hBw.out⟩
end
end Go.Proofs.YtbbdhknagofghaaGreat

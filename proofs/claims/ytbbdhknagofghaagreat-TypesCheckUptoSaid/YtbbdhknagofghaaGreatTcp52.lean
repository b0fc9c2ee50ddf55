import Derived.Test.YtbbdhknagofghaaGreatTcp51
import Derived.ProofKit
import Derived.Deep.Slices
set_option linter.all false
set_option maxHeartbeats 2000000
set_option maxRecDepth 100000
open Go.Proofs.Tryz
namespace Go.Proofs.YtbbdhknagofghaaGreat
open _root_.Nat renaming lt_of_lt_of_le→Bg
open _root_.Go.RowKit.Below renaming refl→Bi
open _root_.List renaming getElem?_eq_some_iff→Bp, mem_append→BL, getElem?_append_right→BN, getElem?_append_left→BU
open Go.RowKit
theorem qh {m:Int} (w:World) (A1 A2 A3 A4 A5 A6 A7:Option Addr) (p:Pg) (c1 c2 c3 c4 c5 c6 c7:Nat) (hz:w.cell? ⟨0,0,none⟩=some (.int .i64 m)) (h:bu w w.heap.size A1 A2 A3 A4 A5 A6 A7 p) (hcap:jH w A5 p) (hbig:bg p=true→(ao p).length≤dd):
  Calls prog 3 #[.agg (aq p A1 A2 A3 A4 A5 A6 A7 c1 c2 c3 c4 c5 c6 c7)] w fun e w'=>e=.returned (.bool true)∧Below w.heap.size w w':=by
 unfold aq
 have h0:0<w.heap.size:=World.block_lt_of_cell? w _ hz
 obtain ⟨wb,hwb,hsz,hba,hcb,-⟩:=al w (aq p A1 A2 A3 A4 A5 A6 A7 c1 c2 c3 c4 c5 c6 c7) 30
 obtain ⟨y0,y1,y2,y3,y4,y5,y6⟩:=aF (w:=wb) (a:=w.heap.size) fun i=>hcb i
 have hb0:Below wb.heap.size wb wb:=Bi _ _
 have hBk:=aa (show ∀ W,Below wb.heap.size wb W→Below w.heap.size w W from fun W hb=>hba.trans (hb.mono (by omega)))
 have hc0:=aa (show ∀ W,Below wb.heap.size wb W→W.cell? ⟨0,0,none⟩=some (.int .i64 m) from fun W hb=>fo h0 hz (hBk.out W hb))
 have hk:=aa (show ∀ W,Below wb.heap.size wb W→bu W w.heap.size A1 A2 A3 A4 A5 A6 A7 p from fun W hb=>h.below (hBk.out W hb))
 have hle:∀ W,Below wb.heap.size wb W→w.heap.size≤W.heap.size:=fun W hb=>(hBk.out W hb).size
 have qG:=aa (fun (W:World) (hb:Below wb.heap.size wb W)=>(sc W A1 A2 A3 A4 A5 A6 A7 p c1 c2 c3 c4 c5 c6 c7 ((hk.out W hb).more (hle W hb))).mono (fun e w' h=>(⟨h.1,hb.trans (h.2.mono hb.size)⟩:(∃ g,e=.returned (.bool g))∧Below wb.heap.size wb w')))
 have qC:=aa (fun (W:World) (hb:Below wb.heap.size wb W)=>(tQ A1 A2 A3 A4 A5 A6 A7 p c1 c2 c3 c4 c5 c6 c7 w.heap.size W (hle W hb) (hk.out W hb) (jH.below A1 A2 A3 A4 A5 A6 A7 p c1 c2 c3 c4 c5 c6 c7 h (hBk.out W hb) hcap) hbig (fun W' hB' hb'=>yX W' A1 A2 A3 A4 A5 A6 A7 p c1 c2 c3 c4 c5 c6 c7 hB' h0 (fo (Bg h0 (hle W hb)) (hc0.out W hb) hb') ((hk.out W hb).below (hb'.mono (hle W hb))))).mono (fun e w' h=>(⟨h.1,hb.trans (h.2.mono hb.size)⟩:e=.returned (.tuple #[.int .i64 (lP p).1,.int .i64 (lP p).2])∧Below wb.heap.size wb w')))
 have qR:=aa (fun (W:World) (hb:Below wb.heap.size wb W)=>(rV A1 A2 A3 A4 A5 A6 A7 p c1 c2 c3 c4 c5 c6 c7 w.heap.size W (hle W hb) (hk.out W hb) hbig).mono (fun e w' h=>(⟨h.1,hb.trans (h.2.mono hb.size)⟩:e=.returned (.tuple #[.int .i64 (lP p).1,.int .i64 (lP p).2])∧Below wb.heap.size wb w')))
 have qK:=aa (fun (W:World) (hb:Below wb.heap.size wb W)=>(tA m W (hc0.out W hb)).mono (fun e w' h=>(⟨h.1,hb.trans (h.2.mono hb.size)⟩:e=.returned (.bool true)∧Below wb.heap.size wb w')))
 have hlz:w.heap.size<wb.heap.size:=by omega
 generalize (lP p).1=n at qC qR
 generalize (lP p).2=c at qC qR
 clear hcb hba hz h hle hcap
 go_enter func3,ntmps3
 go_wp2_with fail
 refine (qG.out _ hb0).mono ?_
 rintro e w1 ⟨⟨g,rfl⟩,hb1⟩
 have kb1:=ab hb1
 cases g with
 |true=>
  go_wp2_with (go_at_call 6;refine (qK.out _ hb1).mono ?_;rintro e w2 ⟨rfl,hb2⟩)
  go_ret
  exact ⟨rfl,hBk.out _ hb2⟩
 |false=>
  go_wp2_with fail
  refine (qC.out _ hb1).mono ?_
  rintro e w2 ⟨rfl,hb2⟩
  have kb2:=ab hb2
  clear qG qC kb1
  go_wp2_with fail
  refine (qR.out _ hb2).mono ?_
  rintro e w3 ⟨rfl,hb3⟩
  go_wp2_with (go_at_call 6;refine (qK.out _ hb3).mono ?_;rintro e w4 ⟨rfl,hb4⟩)
  go_ret
  exact ⟨rfl,hBk.out _ hb4⟩
section
open Go.ChangeShapes Go.WideShapes Go.ChangeAt Go.RowKit Go.Deep
theorem oX {w:World} {a:Addr} {v:Value} (h:w.cell? a=some v):∃ b o,a=⟨b,o,none⟩:=by
 obtain ⟨b,o,spot⟩:=a
 cases spot with
 |none=>exact ⟨b,o,rfl⟩
 |some s=>simp [World.cell?] at h;split at h<;>cases h
theorem ib {α:Type} {p:Nat→α→Prop}:∀ len:Nat,(∀ i,i<len→∃ a,p i a)→∃ xs:List α,xs.length=len∧∀ i x,xs[i]? =some x→p i x
 |0,_=>⟨[],rfl,fun i x h=>by simp at h⟩
 |len+1,h=>by
  obtain ⟨xs,h1,h2⟩:=ib len (fun i hi=>h i (by omega))
  obtain ⟨a,ha⟩:=h len (by omega)
  refine ⟨xs++ [a],by simp [h1],fun i x hx=> ?_⟩
  by_cases hi:i<len
  ·rw [BU (by omega)] at hx
   exact h2 i x hx
  ·have hil:i=len:=by
    have:=(Bp.1 hx).1
    simp [h1] at this;omega
   subst hil
   rw [BN (by omega),h1] at hx
   simp at hx
   subst hx
   exact ha
theorem tU {H:Type} {enc:TypeId×Value→H} {P:Program} {f:Func} {s:ChangeSpec} {apart fresh handsOn:Bool} {W W':World} {args:Array Value} {v:Value} {ds gs:List (DataW H)} {before pa pv:List MemPlace}
  (hW:DataW.Whole enc P f.params.toList s.vars apart W args.toList ds gs before)
  (hres:∀ (b:Nat) (sp:Nat→Bool) (hd:Bool),DataW.TrodAll enc P W' b sp hd f.resultTypes.toList (v.resultList f.resultTypes.size) (s.fn H (ds++gs)).results [])
  (hargs:DataW.TrodAll enc P W' 0 (fun b=>decide (b<W.heap.size)) true f.params.toList args.toList (s.fn H (ds++gs)).args pa)
  (hvars:DataW.TrodVars enc P W' (fun b=>decide (b<W.heap.size)) s.vars (s.fn H (ds++gs)).vars pv)
  (hps:before=pa++pv) (hb:Below W.heap.size W W'):s.post enc P f apart fresh handsOn false W args v W':=by
 have hlt:∀ p∈before,p.block<W.heap.size:=fun p hp=>hW.lt p hp
 refine ⟨ds,gs,before,[],pa,pv,hW,hres _ _ _,hargs,hvars,World.keptBut_mono (fun p hp=>⟨hp,?_⟩) (hb.frame (· ∈before)),fun h=>by cases h⟩
 rw [hps,BL] at hp
 exact Or.inr hp
end
end Go.Proofs.YtbbdhknagofghaaGreat

/- TypesCheck (layer 8): the first item of any program with which something is wrong, and what, is the document's; where the arguments are of bulk at most 1048576. -/
import Derived.Test.YtbbdhknagofghaaGreatTcp54
import Derived.Deep.DeepHandedRow
set_option linter.all false
set_option maxRecDepth 100000
open Go.Proofs.Tryz
namespace Go.Proofs.YtbbdhknagofghaaGreat
open _root_.Nat renaming le_refl→Bm
section
open Go.ChangeShapes Go.WideShapes Go.ChangeAt Go.RowKit
theorem Tryz.own:ownKnob prog.godebug=none:=by kernel_rfl
theorem Tryz.laidOut:laidOutB prog=true:=by kernel_rfl
theorem Bd:prog.readableRec 30=true:=by kernel_rfl
theorem Be:30<prog.types.size:=of_decide_eq_true (by kernel_rfl)
def zT:Value:=.agg #[.slice none 0 0,.slice none 0 0,.slice none 0 0,.slice none 0 0,.slice none 0 0,.slice none 0 0,.slice none 0 0]
theorem zM {H:Type} {enc:TypeId×Value→H} {w:World} {b:Nat} {v:Value} {d:DataW H} {q:List MemPlace} (hv:Value.okWide prog w .any b 30 v) (h:DataW.Trod enc prog w 0 (fun _=>true) true 30 v d q) {M:Nat} (hM:M≤sm) (hb:Rows.uptoBulk d≤M):
  ∃ p A1 A2 A3 A4 A5 A6 A7 c1 c2 c3 c4 c5 c6 c7,v=.agg (aq p A1 A2 A3 A4 A5 A6 A7 c1 c2 c3 c4 c5 c6 c7)∧bu w w.heap.size A1 A2 A3 A4 A5 A6 A7 p∧yt p∧jH w A5 p:=by
 unfold aq
 obtain ⟨cs,rfl,hsz⟩:=okWide_struct underlying30 hv
 obtain ⟨fuel,hf⟩:=h
 have hf2:DataW.trod enc prog w 0 (fun _=>true) true fuel 30 cs.toList=some (d,q):=by simpa [Value.cells] using hf
 obtain ⟨p,⟨A1,A2,A3,A4,A5,A6,A7,c1,c2,c3,c4,c5,c6,c7,e,hP⟩,hcnt⟩:=qk hM H enc w fuel cs.toList _ hf2 hb
 rw [e] at hf2
 refine ⟨p,A1,A2,A3,A4,A5,A6,A7,c1,c2,c3,c4,c5,c6,c7,?_,hP,hcnt,wN A1 A2 A3 A4 A5 A6 A7 p c1 c2 c3 c4 c5 c6 c7 hf2⟩
 obtain ⟨l⟩:=cs
 simp only at e
 rw [e]
 rfl
theorem jT (H:Type) (enc:TypeId×Value→H) (W:World) (base:Nat) (args:Array Value) (ds gs:List (DataW H)) (before:List MemPlace)
  (hval:∀ (j:Nat) t v,Tryz.f3.params[j]? =some t→args[j]? =some v→Value.okWide prog W .any base t v)
  (hW:DataW.Whole enc prog Tryz.f3.params.toList Rows.typesCheckSpec.vars false W args.toList ds gs before) (hk:Rows.uptoSmall H (ds++gs)=true) (hsh:W.ShapedOpen prog):
  Calls prog 3 args W fun e W'=>∃ v,e=.returned v∧Rows.typesCheckSpec.post enc prog Tryz.f3 false true false false W args v W':=by
 have hW':=hW
 obtain ⟨p,q,hA0,hV,rfl,hfz,hnd⟩:=hW
 have hA:DataW.TrodAll enc prog W 0 (fun _=>true) true Tryz.f3.params.toList args.toList ds p:=hA0
 rw [Tryz.params3] at hA hval
 obtain ⟨v0,vs0,d0,ds0,p0,q0,hargs,rfl,rfl,h0,r0⟩:=trodAll_cons hA
 obtain ⟨rfl,rfl,rfl⟩:=trodAll_nil r0
 obtain rfl:args=#[v0]:=by cases args;simp_all
 obtain ⟨rfl,rfl⟩:=trodVars_none hV
 clear hA0
 have hlt:∀ x∈(p0++ [])++ [],x.block<W.heap.size:=fun x hx=>hW'.lt x hx
 have hb:Rows.uptoBulk d0≤sm:=by
  have h:=of_decide_eq_true hk
  simp only [List.append_nil,Rows.uptoBulkAll,Nat.add_zero] at h
  exact h
 obtain ⟨pg,A1,A2,A3,A4,A5,A6,A7,c1,c2,c3,c4,c5,c6,c7,rfl,hP,hcnt,hcap⟩:=zM (hval 0 _ v0 rfl rfl) h0 (Bm _) hb
 obtain ⟨m0,hm0⟩:=Tryz.laysM144.s1_3 W hsh
 refine (qh (m:=m0) W A1 A2 A3 A4 A5 A6 A7 pg c1 c2 c3 c4 c5 c6 c7 hm0 hP hcap (fun hm=>so hm hcnt)).mono fun e W' ⟨he,hbw⟩=> ?_
 subst he
 refine ⟨_,rfl,tU (pa:=p0) (pv:= []) hW' (fun _ _ _=>trodAll_mk1 (shut_bool underlying4 true)) ?_ rfl (by simp) hbw⟩
 exact trodAll_mk1 (Below.trod Tryz.laidOut Bd Be h0 hbw (fun x hx=>hlt x (by simp [hx])))
theorem lR (os:Os) (started:os.Started) (H:Type) (enc:TypeId×Value→H) (F:Stop.Interp):
  ReturnsInHanded {} Tryz.checked os 3 .any ((Rows.OpenSpec.upto Rows.typesCheckSpec).preRow enc prog Tryz.f3 Rows.typesCheckUptoRow.domain false Rows.typesCheckUptoRow.laid) (((Rows.OpenSpec.upto Rows.typesCheckSpec).at F).post enc prog Tryz.f3 false true false false):=by
 refine returnsInHanded_of_row (C:=Tryz.checked) (s:=Rows.OpenSpec.upto Rows.typesCheckSpec) Tryz.own started (by kernel_rfl) func3
  (witness_row_at (enc:=enc) (C:=Tryz.checked) false (World.holding prog os ⟨#[],#[zT],[]⟩) #[zT] rfl (by kernel_rfl) (by kernel_rfl) (by kernel_rfl)
   (OpenSpec.preRow_of_cond 8 (x:=([.agg [.nil,.nil,.nil,.nil,.nil,.nil,.nil]],[],[])) (by kernel_rfl) (by kernel_rfl) (fun k hk=>by cases hk;kernel_rfl) (by kernel_rfl) (laidMetH_nil _ _))) ?_
 intro W base args ds gs before hval hW _ hk _ _ hsh _
 exact jT H enc W base args ds gs before hval hW (hk _ rfl) hsh
theorem typesCheck_upto:Rows.TypesCheckUptoSaid:=
 OpenClaim.holds_of_cond 3 Tryz.f3 rfl rfl rfl rfl rfl rfl rfl ⟨rfl,rfl,rfl,rfl,rfl⟩ rfl rfl rfl rfl rfl (by kernel_rfl) func3 (by kernel_rfl)
  (of_decide_eq_true (by kernel_rfl)) (by unfold Func.isWrapper;rw [if_neg (of_decide_eq_false (by kernel_rfl))];exact ⟨rfl,rfl⟩)
  (fun os started H enc _ F=>by rw [OpenClaim.pre_eq_preRow];exact lR os started H enc F)
end
end Go.Proofs.YtbbdhknagofghaaGreat

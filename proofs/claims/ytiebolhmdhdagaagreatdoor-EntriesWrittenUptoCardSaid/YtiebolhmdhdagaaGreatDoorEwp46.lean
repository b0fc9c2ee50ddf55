import Derived.Test.YtiebolhmdhdagaaGreatDoorEwp44
import Derived.Test.YtiebolhmdhdagaaGreatDoorEwp45
import Derived.Test.YtiebolhmdhdagaaGreatDoorCards
import Derived.Test.YtiebolhmdhdagaaGreatDoorTie
import Derived.OpenShut
import Derived.HandedShaped
import Derived.Stop.LaidErr
set_option linter.all false
set_option maxRecDepth 100000
open Go.Proofs.Tryz
namespace Go.Proofs.YtiebolhmdhdagaaGreatDoor
open _root_.Nat renaming le_refl→Hh, add_zero→HU
open _root_.Option renaming bind_some→Hq
open _root_.List renaming append_nil→H2
section
open Go.ChangeShapes Go.WideShapes Go.ChangeAt Go.RowKit
theorem Tryz.own:ownKnob prog.godebug=none:=by kernel_rfl
theorem Tryz.laidOut:laidOutB prog=true:=by kernel_rfl
theorem F5:prog.readableRec 33=true:=by kernel_rfl
theorem F6:prog.readableRec 28=true:=by kernel_rfl
theorem F7:prog.readableRec 34=true:=by kernel_rfl
theorem F8:33<prog.types.size:=of_decide_eq_true (by kernel_rfl)
theorem F9:28<prog.types.size:=of_decide_eq_true (by kernel_rfl)
theorem Ga:34<prog.types.size:=of_decide_eq_true (by kernel_rfl)
def tU:Value:=.agg #[.slice none 0 0,.slice none 0 0,.slice none 0 0,.slice none 0 0,.slice none 0 0,.slice none 0 0,.slice none 0 0,.slice none 0 0,.slice none 0 0,.slice none 0 0,.slice none 0 0,.slice none 0 0]
theorem Cl: "*" ++ "errors.errorString" = "*errors.errorString" :=by decide
theorem Cm (u:TypeId) (h:prog.typeName? 3 u=some "*errors.errorString"):u=280:=
 typeName_ptr_named (nm:= "errors.errorString") (by rw [Cl];kernel_rfl) (by kernel_rfl) (by decide) u (by rw [Cl];exact h)
theorem tV:prog.globalNamed "strconv.ErrSyntax" =some 4:=by kernel_rfl
theorem tW:prog.globalNamed "strconv.ErrRange" =some 5:=by kernel_rfl
theorem DN {W:World} (hL:laidMetH prog Rows.entriesWrittenUptoRow.laid W) (hsh:W.ShapedOpen prog):iA W:=by
 have hL':laidMet prog Rows.entriesWrittenUptoRow.laid W:=hL
 have h4:=hL'.tail.tail.tail.tail
 obtain ⟨a2,t2,hv2,_⟩:=laid_sentinel (g:=5) h4 tW (by kernel_rfl) underlying79 Cm underlying280 underlying282 rfl rfl underlying9 (by kernel_rfl) (by kernel_rfl)
 obtain ⟨a1,t1,hv1,_⟩:=laid_sentinel (g:=4) h4.tail tV (by kernel_rfl) underlying79 Cm underlying280 underlying282 rfl rfl underlying9 (by kernel_rfl) (by kernel_rfl)
 refine ⟨Go.Proofs.cell_of_shapedOpen_int (zero:=#[.int .i64 0]) (t:=3) hsh (of_decide_eq_true (by kernel_rfl)) (by kernel_rfl) rfl (by kernel_rfl) (by kernel_rfl) underlying3,⟨_,World.var?_cell tV hv1 0,.inr ⟨_,_,rfl⟩⟩,⟨_,World.var?_cell tW hv2 0,.inr ⟨_,_,rfl⟩⟩⟩
theorem Cn:(Rows.laid_internal_strconv_uint64pow10:DataW Unit)=Go.Lib.tabData .u64 Go.Lib.pow10Tab:=by kernel_rfl
theorem wL {W:World} (hL:laidMetH prog Rows.entriesWrittenUptoRow.laid W):jD W:=by
 have hL':laidMet prog Rows.entriesWrittenUptoRow.laid W:=hL
 have h2:=hL'.tail.tail
 refine Go.Lib.tabIs_of_head (g:=3) (t:=244) (e:=59) (n:=20) (by kernel_rfl) (by kernel_rfl) underlying244 underlying59 (by kernel_rfl) (by kernel_rfl) (rest:=(Rows.entriesWrittenUptoRow.laid.drop 3)) ?_
 rw [←Cn]
 exact h2
theorem DO {W:World} (h:jD W):3<W.heap.size:=by
 by_cases hb:3<W.heap.size
 ·exact hb
 ·exfalso
  unfold jD Go.Lib.TabIs World.var? at h
  rw [show prog.globalNamed "internal/strconv.uint64pow10" =some 3 from by kernel_rfl] at h
  simp only [Hq] at h
  rw [Array.getElem?_eq_none (by omega)] at h
  simp at h
theorem Co {H:Type} {enc:TypeId×Value→H} {w:World} {b:Nat} {v:Value} {d:DataW H} {q:List MemPlace} (hv:Value.okWide prog w .any b 33 v) (h:DataW.Trod enc prog w 0 (fun _=>true) true 33 v d q) {M:Nat} (hM:M≤sm) (hb:Rows.uptoBulk d≤M):
  ∃ p A1 A2 A3 A4 A5 A6 A7 A8 A9 A10 A11 A12 c1 c2 c3 c4 c5 c6 c7 c8 c9 c10 c11 c12,v=.agg #[.slice A1 p.heads.length c1,.slice A2 p.metas.length c2,.slice A3 p.steps.length c3,.slice A4 p.acts.length c4,.slice A5 p.tabs.length c5,.slice A6 p.control.length c6,.slice A7 p.emit.length c7,.slice A8 p.nh.length c8,.slice A9 p.nf.length c9,.slice A10 p.nm.length c10,.slice A11 p.na.length c11,.slice A12 p.nt.length c12]∧cJ w w.heap.size A1 A2 A3 A4 A5 A6 A7 A8 A9 A10 A11 A12 p∧p.emit.length≤c7∧(∀ x∈p.na,x.size≤M)∧(∀ x∈p.nt,x.size≤M):=by
 obtain ⟨cs,rfl,hsz⟩:=okWide_struct underlying33 hv
 obtain ⟨fuel,hf⟩:=h
 have hf2:DataW.trod enc prog w 0 (fun _=>true) true fuel 33 cs.toList=some (d,q):=by simpa [Value.cells] using hf
 obtain ⟨p,⟨A1,A2,A3,A4,A5,A6,A7,A8,A9,A10,A11,A12,c1,c2,c3,c4,c5,c6,c7,c8,c9,c10,c11,c12,e,hP,hE⟩,h1,h2⟩:=zi hM H enc w fuel cs.toList _ hf2 hb
 refine ⟨p,A1,A2,A3,A4,A5,A6,A7,A8,A9,A10,A11,A12,c1,c2,c3,c4,c5,c6,c7,c8,c9,c10,c11,c12,?_,hP,hE,h1,h2⟩
 obtain ⟨l⟩:=cs
 simp only at e
 rw [e]
theorem wM {α:Type} {R:CR α} {t e:TypeId} {k M:Nat} (ht:prog.underlying t=some (.slice e)) (hR:iN M t (oD k R)) {H:Type} {enc:TypeId×Value→H} {w:World} {b:Nat} {v:Value} {d:DataW H} {q:List MemPlace} (hv:Value.okWide prog w .any b t v) (h:DataW.Trod enc prog w 0 (fun _=>true) true t v d q) (hb:Rows.uptoBulk d≤M):
  ∃ (l:List α) (B:Option Addr) (c:Nat),v=.slice B l.length c∧Sl k R w w.heap.size B l:=by
 obtain ⟨a0,len,cap,rfl⟩:=okWide_slice ht hv
 obtain ⟨fuel,hf⟩:=h
 have hf':DataW.trod enc prog w 0 (fun _=>true) true fuel t [.slice a0 len cap]=some (d,q):=by simpa [Value.cells] using hf
 obtain ⟨l,L,lc,e,s⟩:=hR H enc w fuel _ _ hf' hb
 injection e with e _
 exact ⟨l,L,lc,e,s⟩
theorem f9 (H:Type) (enc:TypeId×Value→H) (W:World) (base:Nat) (args:Array Value) (ds gs:List (DataW H)) (before:List MemPlace)
  (hval:∀ (j:Nat) t v,Tryz.f3.params[j]? =some t→args[j]? =some v→Value.okWide prog W .any base t v)
  (hW:DataW.Whole enc prog Tryz.f3.params.toList Rows.entriesWrittenSpec.vars false W args.toList ds gs before) (hk:Rows.uptoSmall H (ds++gs)=true) (hV:iA W) (hPw:jD W) (hpl:3<W.heap.size):
  Calls prog 3 args W fun e W'=>∃ v,e=.returned v∧Rows.entriesWrittenSpec.post enc prog Tryz.f3 false true false false W args v W':=by
 have hW':=hW
 obtain ⟨p,q,hA0,hV0,rfl,hfz,hnd⟩:=hW
 have hA:DataW.TrodAll enc prog W 0 (fun _=>true) true Tryz.f3.params.toList args.toList ds p:=hA0
 rw [Tryz.params3] at hA hval
 obtain ⟨v0,vs0,d0,ds0,p0,q0,hargs,rfl,rfl,h0,r0⟩:=trodAll_cons hA
 obtain ⟨v1,vs1,d1,ds1,p1,q1,rfl,rfl,rfl,h1,r1⟩:=trodAll_cons r0
 obtain ⟨v2,vs2,d2,ds2,p2,q2,rfl,rfl,rfl,h2,r2⟩:=trodAll_cons r1
 obtain ⟨rfl,rfl,rfl⟩:=trodAll_nil r2
 obtain rfl:args=#[v0,v1,v2]:=by cases args;simp_all
 obtain ⟨rfl,rfl⟩:=trodVars_none hV0
 clear hA0 hV0
 have hlt:∀ x∈(p0++(p1++(p2++ [])))++ [],x.block<W.heap.size:=fun x hx=>hW'.lt x hx
 have hb:Rows.uptoBulk d0+(Rows.uptoBulk d1+Rows.uptoBulk d2)≤sm:=by
  have h:=of_decide_eq_true hk
  simp only [H2,Rows.uptoBulkAll,HU] at h
  exact h
 obtain ⟨pp,A1,A2,A3,A4,A5,A6,A7,A8,A9,A10,A11,A12,c1,c2,c3,c4,c5,c6,c7,c8,c9,c10,c11,c12,rfl,hP,hE,hna,hnt⟩:=Co (hval 0 _ v0 rfl rfl) h0 (Hh _) (by omega)
 obtain ⟨sw,Bs,cs,rfl,hS⟩:=wM underlying28 (jW (m:=sm)) (hval 1 _ v1 rfl rfl) h1 (by omega)
 obtain ⟨l,Bl,cl,rfl,hL⟩:=wM underlying34 (zk (m:=sm) (Hh _)) (hval 2 _ v2 rfl rfl) h2 (by omega)
 obtain ⟨mm,hm⟩:=hV.m
 refine (je A1 A2 A3 A4 A5 A6 A7 A8 A9 A10 A11 A12 pp c1 c2 c3 c4 c5 c6 c7 c8 c9 c10 c11 c12 Bs cs sw Bl cl l mm W hP hE (EZ A1 A2 A3 A4 A5 A6 A7 A8 A9 A10 A11 A12 pp c1 c2 c3 c4 c5 c6 c7 c8 c9 c10 c11 c12 hP) hnt hna hS hL hV hPw hpl (mf hm) hm).mono fun e W' ⟨he,hbw⟩=> ?_
 subst he
 refine ⟨_,rfl,vk (pa:=p0++(p1++p2)) (pv:= []) hW' (fun _ _ _=>trodAll_mk1 (shut_bool underlying4 true)) ?_ rfl (by simp) hbw⟩
 exact trodAll_mk3 (Below.trod Tryz.laidOut F5 F8 h0 hbw (fun x hx=>hlt x (by simp [hx]))) (Below.trod Tryz.laidOut F6 F9 h1 hbw (fun x hx=>hlt x (by simp [hx]))) (Below.trod Tryz.laidOut F7 Ga h2 hbw (fun x hx=>hlt x (by simp [hx])))
end
end Go.Proofs.YtiebolhmdhdagaaGreatDoor

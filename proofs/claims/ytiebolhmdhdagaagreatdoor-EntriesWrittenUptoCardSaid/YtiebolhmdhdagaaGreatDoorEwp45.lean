import Derived.Test.YtiebolhmdhdagaaGreatDoorShelf
import Derived.Test.YtiebolhmdhdagaaGreatDoorRows
import Derived.Lib.LaidCaseMet
import Derived.PinnedBridge
import Derived.Deep.DeepWitnessRowRef
import Derived.ProofKit
set_option linter.all false
set_option maxRecDepth 100000
open Go.Proofs.Tryz
namespace Go.Proofs.YtiebolhmdhdagaaGreatDoor
open _root_.List renaming mem_cons_self→HE, mem_cons_of_mem→HI, mem_append→H0
open _root_.Nat renaming add_zero→HU
section
open Go.ChangeShapes Go.WideShapes Go.ChangeAt Go.RowKit Go.Lib Go.Shelf
theorem tT {P:Program} {ρ:Ren} (L:Lays.n274 P ρ) (t206:P.underlying (ρ.t 206)=some (.array 3 (ρ.t 21))) (X:CaseExtra P ρ) {w:World}
  (R:Nat) (t:TypeId) (hgR:ρ.g 13≠R)
  (hvar:w.heap[ρ.g 13]? =some (.cells #[.slice (some ⟨R,0,none⟩) caseA.size caseA.size] (ρ.t 162) (0,0)))
  (hblk:w.heap[R]? =some (.cells caseCells5 t (0,0))):LaidIn P w [("unicode.CaseRanges",caseData)] [ρ.g 13,R]:=by
 have hT:=caseTab_of_block hblk
 have hread:=case_slice_reads L t206 X hT caseA_wf (by rw [caseA_size];unfold maxLen;omega) 0
 rw [case_rows_data] at hread
 have hv:w.var? P "unicode.CaseRanges" =some #[.slice (some ⟨R,0,none⟩) caseA.size caseA.size]:=by simp [World.var?,X.n13,hvar]
 refine LaidIn.one [ρ.g 13,R] X.n13 X.y13 hv hread ?_ ?_ ?_
 ·refine List.nodup_append.2 ⟨row_nodup _ _,row_nodup _ _,?_⟩
  intro a ha b hb e
  obtain ⟨i,_,rfl⟩:=MemPlace.mem_row.1 ha
  obtain ⟨j,_,rfl⟩:=MemPlace.mem_row.1 hb
  simp at e
  exact hgR e.1
 ·intro b off hp
  rcases H0.1 hp with hp|hp
  ·obtain ⟨i,hi,e⟩:=MemPlace.mem_row.1 hp
   cases e
   refine ⟨⟨_,_,hvar⟩,fun u v hc=> ?_⟩
   obtain rfl:i=0:=by simpa using hi
   rw [Lib.cell_of_heap hvar] at hc
   simp at hc
  ·obtain ⟨i,hi,e⟩:=MemPlace.mem_row.1 hp
   cases e
   refine ⟨⟨_,_,hblk⟩,fun u v hc=> ?_⟩
   obtain ⟨c0,c1,c2,c3,c4⟩:=hT (i / 5) (by omega)
   have hi5:0+i=0+i / 5*5+i % 5:=by omega
   simp only at hc
   rw [hi5] at hc
   have hm:i % 5<5:=Nat.mod_lt _ (by omega)
   match hk:i % 5,hm with
   |0,_=>rw [hk,HU,c0] at hc;cases hc
   |1,_=>rw [hk,c1] at hc;cases hc
   |2,_=>rw [hk,c2] at hc;cases hc
   |3,_=>rw [hk,c3] at hc;cases hc
   |4,_=>rw [hk,c4] at hc;cases hc
 ·intro x hx
  rcases H0.1 hx with hp|hp
  ·obtain ⟨i,_,rfl⟩:=MemPlace.mem_row.1 hp
   exact HE
  ·obtain ⟨i,_,rfl⟩:=MemPlace.mem_row.1 hp
   exact HI _ HE
def D0:DataW Unit→Value
 | .lit (.int k z)=>.int k z
 |_=>.nilIface
def Fx:DataW Unit→List Value
 | .agg l=>l.map D0
 |d=> [D0 d]
def rk:DataW Unit→List Value
 | .agg l=>l.flatMap Fx
 |_=> []
def D1:DataW Unit→ByteArray
 | .iface _ (.ptr (.agg [.lit (.string s)]))=>⟨s.toArray⟩
 |_=>⟨#[]⟩
noncomputable def d7 (os:Os):World:=
 let N:=(World.settled prog os).heap.size
 let w0:=World.holding prog os ⟨#[.cells #[.string (D1 Rows.laid_strconv_ErrRange)] 282,.cells #[.string (D1 Rows.laid_strconv_ErrSyntax)] 282,.cells caseCells5 297],#[],[]⟩
 let put (h:Array Obj) (g:Nat) (cs:Array Value):Array Obj:=h.modify g fun
  | .cells _ t frozen=>.cells cs t frozen
  |o=>o
 let h1:=put w0.heap 6 (rk Rows.laid_math_bits_deBruijn32tab).toArray
 let h2:=put h1 7 (rk Rows.laid_math_bits_deBruijn64tab).toArray
 let h3:=put h2 3 (rk Rows.laid_internal_strconv_uint64pow10).toArray
 let h4:=put h3 10 (rk Rows.laid_unicode_utf8_acceptRanges).toArray
 let h5:=put h4 5 #[.iface 280 (.pointer (some ⟨N,0,none⟩))]
 let h6:=put h5 4 #[.iface 280 (.pointer (some ⟨N+1,0,none⟩))]
 let h7:=put h6 8 #[.slice (some ⟨N+2,0,none⟩) 336 336]
 let h8:=put h7 9 (Lib.firstTab.map fun z=>Value.int .u8 z).toArray
 { w0 with heap:=h8}
noncomputable abbrev wN:Nat:=(World.settled prog default).heap.size
theorem Fy (os:Os) (args:Array Value):LaidIn prog ((d7 os).forCall (fun _ _=>0) ⟨#[],args,[]⟩).memory (Rows.entriesWrittenUptoRow.laid.take 6) [6,7,3,10,5,wN,4,wN+1]:=
 LaidIn.of_run [6,7,3,10,5,wN,4,wN+1] 8 (by kernel_rfl) (by kernel_rfl) (by kernel_rfl) (by kernel_rfl)
theorem Fz (os:Os) (args:Array Value):LaidIn prog ((d7 os).forCall (fun _ _=>0) ⟨#[],args,[]⟩).memory [("unicode.CaseRanges",Rows.laid_unicode_CaseRanges)] [8,wN+2]:=by
 have e:Rows.laid_unicode_CaseRanges=caseData:=Pinned.caseRanges_eq
 rw [e]
 exact tT (ρ:=Tryz.lays159_ren) { Tryz.lays159 with} Tryz.lays159.t206 ⟨by kernel_rfl,by kernel_rfl,by kernel_rfl,by kernel_rfl,by kernel_rfl,by kernel_rfl⟩ (wN+2) 297 (of_decide_eq_true (by kernel_rfl)) (by kernel_rfl) (by kernel_rfl)
theorem FA (os:Os) (args:Array Value):LaidIn prog ((d7 os).forCall (fun _ _=>0) ⟨#[],args,[]⟩).memory [("unicode/utf8.first",Rows.laid_unicode_utf8_first)] [9]:=by
 have e:Rows.laid_unicode_utf8_first=firstData:=Pinned.utf8First_eq
 rw [e]
 exact LaidIn.of_run [9] 8 (by kernel_rfl) (by kernel_rfl) (by kernel_rfl) (by kernel_rfl)
theorem E1 (os:Os) (args:Array Value):laidMet prog Rows.entriesWrittenUptoRow.laid ((d7 os).forCall (fun _ _=>0) ⟨#[],args,[]⟩).memory:=
 (((Fy os args).append (Fz os args) (by kernel_rfl)).append (FA os args) (by kernel_rfl)).met
end
end Go.Proofs.YtiebolhmdhdagaaGreatDoor

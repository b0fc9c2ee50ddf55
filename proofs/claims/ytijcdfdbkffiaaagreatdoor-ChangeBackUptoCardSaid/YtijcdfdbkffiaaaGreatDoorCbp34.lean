import Derived.Test.YtijcdfdbkffiaaaGreatDoorCbp33
import Derived.Lib.LaidCaseMet
import Derived.PinnedBridge
import Derived.Deep.DeepWitnessRowRef
import Derived.Test.YtijcdfdbkffiaaaGreatDoorCards
import Derived.Test.YtijcdfdbkffiaaaGreatDoorTie
import Derived.OpenShut
import Derived.HandedShaped
import Derived.Stop.LaidErr
set_option linter.all false
set_option maxRecDepth 100000
open Go.Proofs.Tryz
namespace Go.Proofs.YtijcdfdbkffiaaaGreatDoor
open _root_.Nat renaming le_refl→Ht
open _root_.List renaming getElem?_eq_getElem→HA, mem_append→HZ, getElem_of_mem→H0
open _root_.Option renaming bind_some→HP
section
open Go.ChangeShapes Go.WideShapes Go.ChangeAt Go.RowKit Go.Deep
theorem jI:prog.cellsOf 49=6:=by kernel_rfl
theorem ur:prog.cellsOf 38=1:=by kernel_rfl
def Fz (m:Nat):CR GY:=fun w B cs x=>Gg w B cs x∧(∀ s∈x.na,s.size≤m)∧(∀ s∈x.nt,s.size≤m)
def Gh (m:Nat):CR Lp:=fun w B cs p=>Hb w B cs p∧(∀ s∈p.na,s.size≤m)∧(∀ s∈p.nt,s.size≤m)
theorem BS {m:Nat} {w:World} {B:Nat} {A:Option Addr} {xs:List ByteArray} (h:Sl 1 (BI m) w B A xs):Sl 1 cJ w B A xs∧∀ s∈xs,s.size≤m:=
 ⟨h.imp fun cs x g=>⟨g.1,g.2.1⟩,fun s hs=>by
  obtain ⟨i,hi,rfl⟩:=H0 hs
  obtain ⟨_,_,_,_,_,_,_,_,_,h3⟩:=h.2 i _ (HA hi)
  exact h3⟩
theorem oN {m:Nat}:gR m 28 (mS 1 (BI m)):=bV (m:=m) (t:=28) (e:=9) (k:=1) underlying28 mL (by decide) (Dj underlying9)
theorem us {m:Nat} (hm:m≤sm):gR m 31 (Fz m):=fun H enc w fuel cs x h hb=>by
 obtain ⟨xs,n,_,rfl,hl,hlen,hg⟩:=DataW.trod_struct underlying31 h
 rw [oK] at hl
 match xs,hlen with
 | [y0,y1,y2,y3,y4],_=>
  simp only [List.map_cons,List.map_nil,Rows.uptoBulk,Rows.uptoBulkAll] at hb
  have p0:=ap y0.1
  have p1:=ap y1.1
  have p2:=ap y2.1
  have p3:=ap y3.1
  have p4:=ap y4.1
  match cs,hl with
  | [a0,a1,a2,a3,a4],_=>
   obtain ⟨v0,A0,c0,e0,h0⟩:=mQ (m:=m) H enc w n [a0] y0 (by simpa [d9] using hg 0 _ rfl) (by omega)
   obtain ⟨v1,A1,c1,e1,h1⟩:=bV (m:=m) (t:=29) (e:=28) (k:=1) underlying29 d9 (by decide) (mQ (m:=m)) H enc w n [a1] y1 (by simpa [pQ] using hg 1 _ rfl) (by omega)
   obtain ⟨v2,A2,c2,e2,h2⟩:=mQ (m:=m) H enc w n [a2] y2 (by simpa [d9] using hg 2 _ rfl) (by omega)
   obtain ⟨v3,A3,c3,e3,g3⟩:=oN (m:=m) H enc w n [a3] y3 (by simpa [d9] using hg 3 _ rfl) (by omega)
   obtain ⟨v4,A4,c4,e4,g4⟩:=oN (m:=m) H enc w n [a4] y4 (by simpa [d9] using hg 4 _ rfl) (by omega)
   obtain ⟨h3,k3⟩:=BS g3
   obtain ⟨h4,k4⟩:=BS g4
   cases e0
   cases e1
   cases e2
   cases e3
   cases e4
   exact ⟨⟨v0,v1,v2,v3,v4⟩,⟨A0,A1,A2,A3,A4,c0,c1,c2,c3,c4,rfl,h0,h1,h2,h3,h4⟩,k3,k4⟩
theorem yu {m:Nat} (hm:m≤sm):gR m 33 (Gh m):=fun H enc w fuel cs x h hb=>by
 obtain ⟨xs,n,_,rfl,hl,hlen,hg⟩:=DataW.trod_struct underlying33 h
 rw [BJ] at hl
 match xs,hlen with
 | [y0,y1,y2,y3,y4,y5,y6,y7],_=>
  simp only [List.map_cons,List.map_nil,Rows.uptoBulk,Rows.uptoBulkAll] at hb
  have p0:=ap y0.1
  have p1:=ap y1.1
  have p2:=ap y2.1
  have p3:=ap y3.1
  have p4:=ap y4.1
  have p5:=ap y5.1
  have p6:=ap y6.1
  have p7:=ap y7.1
  match cs,hl with
  | [a0,a1,a2,a3,a4,a5,a6,a7,a8,a9,a10,a11],_=>
   obtain ⟨v0,A0,c0,e0,h0⟩:=bV (m:=m) (t:=22) (e:=23) (k:=1) underlying22 fI (by decide) (jn (m:=m)) H enc w n [a0] y0 (by simpa [yo] using hg 0 _ rfl) (by omega)
   obtain ⟨v1,A1,c1,e1,h1⟩:=jn (m:=m) H enc w n [a1] y1 (by simpa [fI] using hg 1 _ rfl) (by omega)
   obtain ⟨v2,A2,c2,e2,h2⟩:=bV (m:=m) (t:=24) (e:=79) (k:=4) underlying24 si (by decide) (BO hm) H enc w n [a2] y2 (by simpa [yq] using hg 2 _ rfl) (by omega)
   obtain ⟨v3,A3,c3,e3,h3⟩:=bV (m:=m) (t:=25) (e:=85) (k:=2) underlying25 vn (by decide) (Dm hm) H enc w n [a3] y3 (by simpa [BL] using hg 3 _ rfl) (by omega)
   obtain ⟨v4,A4,c4,e4,h4⟩:=bV (m:=m) (t:=26) (e:=88) (k:=5) underlying26 vo (by decide) (Dn hm) H enc w n [a4] y4 (by simpa [BM] using hg 4 _ rfl) (by omega)
   obtain ⟨v5,A5,c5,e5,h5⟩:=bV (m:=m) (t:=27) (e:=123) (k:=5) underlying27 mN (by decide) (so hm) H enc w n [a5] y5 (by simpa [oM] using hg 5 _ rfl) (by omega)
   obtain ⟨v6,A6,c6,e6,h6,g6,k6⟩:=fH (m:=m) (t:=23) (e:=3) (k:=1) underlying23 bI (by decide) bH H enc w n [a6] y6 (by simpa [fI] using hg 6 _ rfl) (by omega)
   obtain ⟨v7,⟨A8,A9,A10,A11,A12,c8,c9,c10,c11,c12,e7,s8,s9,s10,s11,ub⟩,kna,knt⟩:=us hm H enc w n [a7,a8,a9,a10,a11] y7 (by simpa [oK] using hg 7 _ rfl) (by omega)
   cases e0
   cases e1
   cases e2
   cases e3
   cases e4
   cases e5
   cases e6
   cases e7
   exact ⟨⟨v0,v1,v2,v3,v4,v5,v6,v7.nh,v7.nf,v7.nm,v7.na,v7.nt⟩,⟨A0,A1,A2,A3,A4,A5,A6,A8,A9,A10,A11,A12,c0,c1,c2,c3,c4,c5,c6,c8,c9,c10,c11,c12,rfl,⟨h0,h1,h2,h3,h4,h5,h6,s8,s9,s10,s11,ub⟩,g6⟩,kna,knt⟩
theorem oO {m:Nat} (hm:m≤sm):gR m 49 eM:=fun H enc w fuel cs x h hb=>by
 obtain ⟨xs,n,_,rfl,hl,hlen,hg⟩:=DataW.trod_struct underlying49 h
 rw [jI] at hl
 match xs,hlen with
 | [y0,y1,y2,y3,y4],_=>
  simp only [List.map_cons,List.map_nil,Rows.uptoBulk,Rows.uptoBulkAll] at hb
  have p0:=ap y0.1
  have p1:=ap y1.1
  have p2:=ap y2.1
  have p3:=ap y3.1
  have p4:=ap y4.1
  match cs,hl with
  | [a0,a1,a2,a3,a4,a5],_=>
   obtain ⟨v0,e0⟩:=bH (m:=m) H enc w n [a0] y0 (by simpa [bI] using hg 0 _ rfl) (by omega)
   obtain ⟨v1,A1,c1,e1,h1⟩:=bV (m:=m) (t:=44) (e:=101) (k:=4) underlying44 pO (by decide) (vp hm) H enc w n [a1] y1 (by simpa [sj] using hg 1 _ rfl) (by omega)
   obtain ⟨v2,e2⟩:=bH (m:=m) H enc w n [a2] y2 (by simpa [bI] using hg 2 _ rfl) (by omega)
   obtain ⟨v3,e3⟩:=bH (m:=m) H enc w n [a3] y3 (by simpa [bI] using hg 3 _ rfl) (by omega)
   obtain ⟨v4,A4,c4,e4,h4⟩:=vq hm H enc w n [a4,a5] y4 (by simpa [pP] using hg 4 _ rfl) (by omega)
   cases e0
   cases e1
   cases e2
   cases e3
   cases e4
   exact ⟨⟨v0,v1,v2,v3,v4⟩,A1,c1,A4,c4,rfl,h1,h4⟩
theorem BT {m:Nat} (hm:m≤sm):gR m 38 em:=bV (m:=m) (t:=38) (e:=49) (k:=6) underlying38 jI (by decide) (oO hm)
theorem yx {m:Nat} (hm:m≤sm):gR m 34 (mS 1 em):=bV (m:=m) (t:=34) (e:=38) (k:=1) underlying34 ur (by decide) (BT hm)
end
section
open Go.ChangeShapes Go.WideShapes Go.ChangeAt Go.RowKit Go.Deep
theorem mR:prog.cellsOf 51=9:=by kernel_rfl
def BU:CR bn:=fun w B cs x=>nz w B cs x∧u8 x.kind
theorem ut {m:Nat} (hm:m≤sm):gR m 51 BU:=fun H enc w fuel cs x h hb=>by
 obtain ⟨xs,n,_,rfl,hl,hlen,hg⟩:=DataW.trod_struct underlying51 h
 rw [mR] at hl
 match xs,hlen with
 | [y0,y1,y2,y3],_=>
  simp only [List.map_cons,List.map_nil,Rows.uptoBulk,Rows.uptoBulkAll] at hb
  have p0:=ap y0.1
  have p1:=ap y1.1
  have p2:=ap y2.1
  have p3:=ap y3.1
  match cs,hl with
  | [a0,a1,a2,a3,a4,a5,a6,a7,a8],_=>
   obtain ⟨v0,e0,h0⟩:=pN (m:=m) H enc w n [a0] y0 (by simpa [gS] using hg 0 _ rfl) (by omega)
   obtain ⟨v1,e1⟩:=bH (m:=m) H enc w n [a1] y1 (by simpa [bI] using hg 1 _ rfl) (by omega)
   obtain ⟨v2,e2⟩:=bH (m:=m) H enc w n [a2] y2 (by simpa [bI] using hg 2 _ rfl) (by omega)
   obtain ⟨v3,A1,c1,A2,c2,e3,h1,h2⟩:=oO hm H enc w n [a3,a4,a5,a6,a7,a8] y3 (by simpa [jI] using hg 3 _ rfl) (by omega)
   cases e0
   cases e1
   cases e2
   cases e3
   exact ⟨⟨v0,v1,v2,v3⟩,⟨A1,c1,A2,c2,rfl,h1,h2⟩,h0⟩
theorem BV {m:Nat} (hm:m≤sm):gR m 35 (mS 9 BU):=bV (m:=m) (t:=35) (e:=51) (k:=9) underlying35 mR (by decide) (ut hm)
theorem Do {w:World} {B:Nat} {A:Option Addr} {l:List bn} (h:Sl 9 BU w B A l):Sl 9 nz w B A l∧∀ c∈l,u8 c.kind:=
 ⟨h.imp fun cs x g=>g.1,fun c hc=>by
  obtain ⟨i,hi,rfl⟩:=H0 hc
  obtain ⟨_,_,_,_,_,_,_,_,h3⟩:=h.2 i _ (HA hi)
  exact h3⟩
end
section
open Go.ChangeShapes Go.WideShapes Go.ChangeAt Go.RowKit Go.Lib Go.Shelf
theorem sr {P:Program} {ρ:Ren} (L:Lays.n274 P ρ) (t206:P.underlying (ρ.t 206)=some (.array 3 (ρ.t 21))) (X:CaseExtra P ρ) {w:World}
  (R:Nat) (t:TypeId) (hgR:ρ.g 13≠R)
  (hvar:w.heap[ρ.g 13]? =some (.cells #[.slice (some ⟨R,0,none⟩) caseA.size caseA.size] (ρ.t 162) (0,0)))
  (hblk:w.heap[R]? =some (.cells caseCells5 t (0,0))):LaidIn P w [("unicode.CaseRanges",caseData)] [ρ.g 13,R]:=by
 have hT:=caseTab_of_block hblk
 have hread:=case_slice_reads L t206 X hT caseA_wf (by rw [caseA_size];unfold maxLen;omega) 0
 rw [case_rows_data] at hread
 have hv:w.var? P "unicode.CaseRanges" =some #[.slice (some ⟨R,0,none⟩) caseA.size caseA.size]:=by simp [World.var?,X.n13,hvar]
 refine LaidIn.one [ρ.g 13,R] X.n13 X.y13 hv hread ?_ ?_ ?_
 ·refine List.nodup_append.2 ⟨row_nodup _ _,row_nodup _ _,?_⟩
  intro a ha b hb e
  obtain ⟨i,_,rfl⟩:=MemPlace.mem_row.1 ha
  obtain ⟨j,_,rfl⟩:=MemPlace.mem_row.1 hb
  simp at e
  exact hgR e.1
 ·intro b off hp
  rcases HZ.1 hp with hp|hp
  ·obtain ⟨i,hi,e⟩:=MemPlace.mem_row.1 hp
   cases e
   refine ⟨⟨_,_,hvar⟩,fun u v hc=> ?_⟩
   obtain rfl:i=0:=by simpa using hi
   rw [Lib.cell_of_heap hvar] at hc
   simp at hc
  ·obtain ⟨i,hi,e⟩:=MemPlace.mem_row.1 hp
   cases e
   refine ⟨⟨_,_,hblk⟩,fun u v hc=> ?_⟩
   obtain ⟨c0,c1,c2,c3,c4⟩:=hT (i / 5) (by omega)
   have hi5:0+i=0+i / 5*5+i % 5:=by omega
   simp only at hc
   rw [hi5] at hc
   have hm:i % 5<5:=Nat.mod_lt _ (by omega)
   match hk:i % 5,hm with
   |0,_=>rw [hk,Nat.add_zero,c0] at hc;cases hc
   |1,_=>rw [hk,c1] at hc;cases hc
   |2,_=>rw [hk,c2] at hc;cases hc
   |3,_=>rw [hk,c3] at hc;cases hc
   |4,_=>rw [hk,c4] at hc;cases hc
 ·intro x hx
  rcases HZ.1 hx with hp|hp
  ·obtain ⟨i,_,rfl⟩:=MemPlace.mem_row.1 hp
   exact List.mem_cons_self
  ·obtain ⟨i,_,rfl⟩:=MemPlace.mem_row.1 hp
   exact List.mem_cons_of_mem _ List.mem_cons_self
def DE:DataW Unit→Value
 | .lit (.int k z)=>.int k z
 |_=>.nilIface
def FA:DataW Unit→List Value
 | .agg l=>l.map DE
 |d=> [DE d]
def pR:DataW Unit→List Value
 | .agg l=>l.flatMap FA
 |_=> []
def DF:DataW Unit→ByteArray
 | .iface _ (.ptr (.agg [.lit (.string s)]))=>⟨s.toArray⟩
 |_=>⟨#[]⟩
noncomputable def dP (os:Os):World:=
 let N:=(World.settled prog os).heap.size
 let w0:=World.holding prog os ⟨#[.cells #[.string (DF Rows.laid_strconv_ErrRange)] 273,.cells #[.string (DF Rows.laid_strconv_ErrSyntax)] 273,.cells caseCells5 324],#[],[]⟩
 let put (h:Array Obj) (g:Nat) (cs:Array Value):Array Obj:=h.modify g fun
  | .cells _ t frozen=>.cells cs t frozen
  |o=>o
 let h1:=put w0.heap 6 (pR Rows.laid_math_bits_deBruijn32tab).toArray
 let h2:=put h1 7 (pR Rows.laid_math_bits_deBruijn64tab).toArray
 let h3:=put h2 5 (pR Rows.laid_internal_strconv_uint64pow10).toArray
 let h4:=put h3 4 (pR Rows.laid_unicode_utf8_acceptRanges).toArray
 let h5:=put h4 2 #[.iface 271 (.pointer (some ⟨N,0,none⟩))]
 let h6:=put h5 1 #[.iface 271 (.pointer (some ⟨N+1,0,none⟩))]
 let h7:=put h6 8 #[.slice (some ⟨N+2,0,none⟩) 336 336]
 let h8:=put h7 3 (Lib.firstTab.map fun z=>Value.int .u8 z).toArray
 { w0 with heap:=h8}
noncomputable abbrev wN:Nat:=(World.settled prog default).heap.size
theorem FB (os:Os) (args:Array Value):LaidIn prog ((dP os).forCall (fun _ _=>0) ⟨#[],args,[]⟩).memory (Rows.changeBackUptoRow.laid.take 6) [6,7,5,4,2,wN,1,wN+1]:=
 LaidIn.of_run [6,7,5,4,2,wN,1,wN+1] 8 (by kernel_rfl) (by kernel_rfl) (by kernel_rfl) (by kernel_rfl)
theorem FC (os:Os) (args:Array Value):LaidIn prog ((dP os).forCall (fun _ _=>0) ⟨#[],args,[]⟩).memory [("unicode.CaseRanges",Rows.laid_unicode_CaseRanges)] [8,wN+2]:=by
 have e:Rows.laid_unicode_CaseRanges=caseData:=Pinned.caseRanges_eq
 rw [e]
 exact sr (ρ:=Tryz.lays159_ren) { Tryz.lays159 with} Tryz.lays159.t206 ⟨by kernel_rfl,by kernel_rfl,by kernel_rfl,by kernel_rfl,by kernel_rfl,by kernel_rfl⟩ (wN+2) 324 (of_decide_eq_true (by kernel_rfl)) (by kernel_rfl) (by kernel_rfl)
theorem FD (os:Os) (args:Array Value):LaidIn prog ((dP os).forCall (fun _ _=>0) ⟨#[],args,[]⟩).memory [("unicode/utf8.first",Rows.laid_unicode_utf8_first)] [3]:=by
 have e:Rows.laid_unicode_utf8_first=firstData:=Pinned.utf8First_eq
 rw [e]
 exact LaidIn.of_run [3] 8 (by kernel_rfl) (by kernel_rfl) (by kernel_rfl) (by kernel_rfl)
theorem ED (os:Os) (args:Array Value):laidMet prog Rows.changeBackUptoRow.laid ((dP os).forCall (fun _ _=>0) ⟨#[],args,[]⟩).memory:=
 (((FB os args).append (FC os args) (by kernel_rfl)).append (FD os args) (by kernel_rfl)).met
end
section
open Go.ChangeShapes Go.WideShapes Go.ChangeAt Go.RowKit
theorem Tryz.own:ownKnob prog.godebug=none:=by kernel_rfl
theorem Tryz.laidOut:laidOutB prog=true:=by kernel_rfl
theorem Gi:prog.readableRec 33=true:=by kernel_rfl
theorem Gj:prog.readableRec 35=true:=by kernel_rfl
theorem Gk:prog.readableRec 34=true:=by kernel_rfl
theorem Gl:33<prog.types.size:=of_decide_eq_true (by kernel_rfl)
theorem Gm:35<prog.types.size:=of_decide_eq_true (by kernel_rfl)
theorem Gn:34<prog.types.size:=of_decide_eq_true (by kernel_rfl)
def ss:Value:=.agg #[.slice none 0 0,.slice none 0 0,.slice none 0 0,.slice none 0 0,.slice none 0 0,.slice none 0 0,.slice none 0 0,.slice none 0 0,.slice none 0 0,.slice none 0 0,.slice none 0 0,.slice none 0 0]
theorem BW: "*" ++ "errors.errorString" = "*errors.errorString" :=by decide
theorem BX (u:TypeId) (h:prog.typeName? 3 u=some "*errors.errorString"):u=271:=
 typeName_ptr_named (nm:= "errors.errorString") (by rw [BW];kernel_rfl) (by kernel_rfl) (by decide) u (by rw [BW];exact h)
theorem su:prog.globalNamed "strconv.ErrSyntax" =some 1:=by kernel_rfl
theorem sy:prog.globalNamed "strconv.ErrRange" =some 2:=by kernel_rfl
theorem Dp {W:World} (hL:laidMetH prog Rows.changeBackUptoRow.laid W) (hsh:W.ShapedOpen prog):gV W:=by
 have hL':laidMet prog Rows.changeBackUptoRow.laid W:=hL
 have h4:=hL'.tail.tail.tail.tail
 obtain ⟨a2,t2,hv2,_⟩:=laid_sentinel (g:=2) h4 sy (by kernel_rfl) underlying169 BX underlying271 underlying273 rfl rfl underlying9 (by kernel_rfl) (by kernel_rfl)
 obtain ⟨a1,t1,hv1,_⟩:=laid_sentinel (g:=1) h4.tail su (by kernel_rfl) underlying169 BX underlying271 underlying273 rfl rfl underlying9 (by kernel_rfl) (by kernel_rfl)
 refine ⟨Go.Proofs.cell_of_shapedOpen_int (zero:=#[.int .i64 0]) (t:=3) hsh (of_decide_eq_true (by kernel_rfl)) (by kernel_rfl) rfl (by kernel_rfl) (by kernel_rfl) underlying3,⟨_,World.var?_cell su hv1 0,.inr ⟨_,_,rfl⟩⟩,⟨_,World.var?_cell sy hv2 0,.inr ⟨_,_,rfl⟩⟩⟩
theorem BY:(Rows.laid_internal_strconv_uint64pow10:DataW Unit)=Go.Lib.tabData .u64 Go.Lib.pow10Tab:=by kernel_rfl
theorem vt {W:World} (hL:laidMetH prog Rows.changeBackUptoRow.laid W):qF W:=by
 have hL':laidMet prog Rows.changeBackUptoRow.laid W:=hL
 have h2:=hL'.tail.tail
 refine Go.Lib.tabIs_of_head (g:=5) (t:=275) (e:=94) (n:=20) (by kernel_rfl) (by kernel_rfl) underlying275 underlying94 (by kernel_rfl) (by kernel_rfl) (rest:=(Rows.changeBackUptoRow.laid.drop 3)) ?_
 rw [←BY]
 exact h2
theorem Dq {W:World} (h:qF W):5<W.heap.size:=by
 by_cases hb:5<W.heap.size
 ·exact hb
 ·exfalso
  unfold qF Go.Lib.TabIs World.var? at h
  rw [show prog.globalNamed "internal/strconv.uint64pow10" =some 5 from by kernel_rfl] at h
  simp only [HP] at h
  rw [Array.getElem?_eq_none (by omega)] at h
  simp at h
theorem BZ {H:Type} {enc:TypeId×Value→H} {w:World} {b:Nat} {v:Value} {d:DataW H} {q:List MemPlace} (hv:Value.okWide prog w .any b 33 v) (h:DataW.Trod enc prog w 0 (fun _=>true) true 33 v d q) {M:Nat} (hM:M≤sm) (hb:Rows.uptoBulk d≤M):
  ∃ p A1 A2 A3 A4 A5 A6 A7 A8 A9 A10 A11 A12 c1 c2 c3 c4 c5 c6 c7 c8 c9 c10 c11 c12,v=.agg (aO A1 A2 A3 A4 A5 A6 A7 A8 A9 A10 A11 A12 p c1 c2 c3 c4 c5 c6 c7 c8 c9 c10 c11 c12)∧cz w w.heap.size A1 A2 A3 A4 A5 A6 A7 A8 A9 A10 A11 A12 p∧p.emit.length≤c7∧(∀ x∈p.na,x.size≤M)∧(∀ x∈p.nt,x.size≤M):=by
 unfold aO
 obtain ⟨cs,rfl,hsz⟩:=okWide_struct underlying33 hv
 obtain ⟨fuel,hf⟩:=h
 have hf2:DataW.trod enc prog w 0 (fun _=>true) true fuel 33 cs.toList=some (d,q):=by simpa [Value.cells] using hf
 obtain ⟨p,⟨A1,A2,A3,A4,A5,A6,A7,A8,A9,A10,A11,A12,c1,c2,c3,c4,c5,c6,c7,c8,c9,c10,c11,c12,e,hP,hE⟩,h1,h2⟩:=yu hM H enc w fuel cs.toList _ hf2 hb
 refine ⟨p,A1,A2,A3,A4,A5,A6,A7,A8,A9,A10,A11,A12,c1,c2,c3,c4,c5,c6,c7,c8,c9,c10,c11,c12,?_,hP,hE,h1,h2⟩
 obtain ⟨l⟩:=cs
 simp only at e
 rw [e]
theorem vu {α:Type} {R:CR α} {t e:TypeId} {k M:Nat} (ht:prog.underlying t=some (.slice e)) (hR:gR M t (mS k R)) {H:Type} {enc:TypeId×Value→H} {w:World} {b:Nat} {v:Value} {d:DataW H} {q:List MemPlace} (hv:Value.okWide prog w .any b t v) (h:DataW.Trod enc prog w 0 (fun _=>true) true t v d q) (hb:Rows.uptoBulk d≤M):
  ∃ (l:List α) (B:Option Addr) (c:Nat),v=.slice B l.length c∧Sl k R w w.heap.size B l:=by
 obtain ⟨a0,len,cap,rfl⟩:=okWide_slice ht hv
 obtain ⟨fuel,hf⟩:=h
 have hf':DataW.trod enc prog w 0 (fun _=>true) true fuel t [.slice a0 len cap]=some (d,q):=by simpa [Value.cells] using hf
 obtain ⟨l,L,lc,e,s⟩:=hR H enc w fuel _ _ hf' hb
 injection e with e _
 exact ⟨l,L,lc,e,s⟩
theorem gZ (H:Type) (enc:TypeId×Value→H) (W:World) (base:Nat) (args:Array Value) (ds gs:List (DataW H)) (before:List MemPlace)
  (hval:∀ (j:Nat) t v,Tryz.f4.params[j]? =some t→args[j]? =some v→Value.okWide prog W .any base t v)
  (hW:DataW.Whole enc prog Tryz.f4.params.toList Rows.changeBackSpec.vars false W args.toList ds gs before) (hk:Rows.uptoSmall H (ds++gs)=true) (hV:gV W) (hPw:qF W) (hpl:5<W.heap.size):
  Calls prog 4 args W fun e W'=>∃ v,e=.returned v∧Rows.changeBackSpec.post enc prog Tryz.f4 false true false false W args v W':=by
 have hW':=hW
 obtain ⟨p,q,hA0,hV0,rfl,hfz,hnd⟩:=hW
 have hA:DataW.TrodAll enc prog W 0 (fun _=>true) true Tryz.f4.params.toList args.toList ds p:=hA0
 rw [Tryz.params4] at hA hval
 obtain ⟨v0,vs0,d0,ds0,p0,q0,hargs,rfl,rfl,h0,r0⟩:=trodAll_cons hA
 obtain ⟨v1,vs1,d1,ds1,p1,q1,rfl,rfl,rfl,h1,r1⟩:=trodAll_cons r0
 obtain ⟨v2,vs2,d2,ds2,p2,q2,rfl,rfl,rfl,h2,r2⟩:=trodAll_cons r1
 obtain ⟨rfl,rfl,rfl⟩:=trodAll_nil r2
 obtain rfl:args=#[v0,v1,v2]:=by cases args;simp_all
 obtain ⟨rfl,rfl⟩:=trodVars_none hV0
 clear hA0 hV0
 have hlt:∀ x∈(p0++(p1++(p2++ [])))++ [],x.block<W.heap.size:=fun x hx=>hW'.lt x hx
 have hb:Rows.uptoBulk d0+(Rows.uptoBulk d1+Rows.uptoBulk d2)≤sm:=by
  have h:=of_decide_eq_true hk
  simp only [List.append_nil,Rows.uptoBulkAll,Nat.add_zero] at h
  exact h
 obtain ⟨pp,A1,A2,A3,A4,A5,A6,A7,A8,A9,A10,A11,A12,c1,c2,c3,c4,c5,c6,c7,c8,c9,c10,c11,c12,rfl,hP,hE,hna,hnt⟩:=BZ (hval 0 _ v0 rfl rfl) h0 (Ht _) (by omega)
 obtain ⟨l,Bl,cl,rfl,hL⟩:=vu underlying34 (yx (m:=sm) (Ht _)) (hval 1 _ v1 rfl rfl) h1 (by omega)
 obtain ⟨cs,Bs,cc,rfl,hS⟩:=vu underlying35 (BV (m:=sm) (Ht _)) (hval 2 _ v2 rfl rfl) h2 (by omega)
 obtain ⟨hS1,hS2⟩:=Do hS
 obtain ⟨mm,hm⟩:=hV.m
 refine (mJ A1 A2 A3 A4 A5 A6 A7 A8 A9 A10 A11 A12 pp c1 c2 c3 c4 c5 c6 c7 c8 c9 c10 c11 c12 Bl cl l Bs cc cs mm W hP hE (EC A1 A2 A3 A4 A5 A6 A7 A8 A9 A10 A11 A12 pp c1 c2 c3 c4 c5 c6 c7 c8 c9 c10 c11 c12 hP) hL hS1 hS2 hV (kJ hm) hm).mono fun e W' ⟨he,hbw⟩=> ?_
 subst he
 refine ⟨_,rfl,uo (pa:=p0++(p1++p2)) (pv:= []) hW' (fun _ _ _=>trodAll_mk1 (shut_bool underlying4 true)) ?_ rfl (by simp) hbw⟩
 exact trodAll_mk3 (Below.trod Tryz.laidOut Gi Gl h0 hbw (fun x hx=>hlt x (by simp [hx]))) (Below.trod Tryz.laidOut Gk Gn h1 hbw (fun x hx=>hlt x (by simp [hx]))) (Below.trod Tryz.laidOut Gj Gm h2 hbw (fun x hx=>hlt x (by simp [hx])))
end
section
open Go.ChangeShapes Go.WideShapes Go.ChangeAt Go.RowKit
theorem B0 (os:Os) {H:Type} (enc:TypeId×Value→H):
  (Rows.OpenSpec.upto Rows.changeBackSpec).preRow enc prog Tryz.f4 Rows.changeBackUptoRow.domain false Rows.changeBackUptoRow.laid ((dP os).forCall (fun _ _=>0) ⟨#[],#[ss,.slice none 0 0,.slice none 0 0],[]⟩).memory #[ss,.slice none 0 0,.slice none 0 0]:=by
 have hw:(DataW.whole enc prog ((dP os).forCall (fun _ _=>0) ⟨#[],#[ss,.slice none 0 0,.slice none 0 0],[]⟩).memory Tryz.f4.params.toList (Rows.OpenSpec.upto Rows.changeBackSpec).vars false #[ss,Value.slice none 0 0,Value.slice none 0 0].toList 8).map (fun x=>(x.1,x.2.1))=
   some ([.agg [.nil,.nil,.nil,.nil,.nil,.nil,.nil,.agg [.nil,.nil,.nil,.nil,.nil]],.nil,.nil],[]):=by kernel_rfl
 obtain ⟨⟨x1,x2,x3⟩,hx,hx1⟩:=Option.map_eq_some_iff.1 hw
 simp only [Prod.mk.injEq] at hx1
 obtain ⟨rfl,rfl⟩:=hx1
 exact OpenSpec.preRow_of_cond 8 hx (by kernel_rfl) (fun k hk=>by cases hk;kernel_rfl) (by kernel_rfl) (ED os _)
end
section
open Go.ChangeShapes Go.WideShapes Go.ChangeAt Go.RowKit
theorem jo (os:Os) (started:os.Started) (H:Type) (enc:TypeId×Value→H) (F:Stop.Interp):
  ReturnsInHanded {} Tryz.checked os 4 .any ((Rows.OpenSpec.upto Rows.changeBackSpec).preRow enc prog Tryz.f4 Rows.changeBackUptoRow.domain false Rows.changeBackUptoRow.laid) (((Rows.OpenSpec.upto Rows.changeBackSpec).at F).post enc prog Tryz.f4 false true false false):=by
 refine returnsInHanded_of_row (C:=Tryz.checked) (s:=Rows.OpenSpec.upto Rows.changeBackSpec) Tryz.own started (by kernel_rfl) func4
  (witness_row_atRef (enc:=enc) (C:=Tryz.checked) false (dP os) #[ss,.slice none 0 0,.slice none 0 0] rfl (by kernel_rfl) (by kernel_rfl) (by kernel_rfl) (B0 os enc)) ?_
 intro W base args ds gs before hval hW _ hk _ hL hsh _
 exact gZ H enc W base args ds gs before hval hW (hk _ rfl) (Dp hL hsh) (vt hL) (Dq (vt hL))
end
end Go.Proofs.YtijcdfdbkffiaaaGreatDoor

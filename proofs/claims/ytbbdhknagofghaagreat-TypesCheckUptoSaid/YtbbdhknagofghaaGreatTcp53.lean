import Derived.Test.YtbbdhknagofghaaGreatTcp52
set_option linter.all false
set_option maxRecDepth 20000
open Go.Proofs.Tryz
namespace Go.Proofs.YtbbdhknagofghaaGreat
open _root_.Nat renaming le_trans→Bj, le_refl→Bm, zero_le→Bo
open _root_.List renaming getElem?_eq_getElem→Bk, getElem?_eq_some_iff→Bp, all_eq_true→Bw, isEmpty_iff→Bx, length_cons→By, map_cons→BF, mem_cons→BI, mem_cons_of_mem→BT, length_nil→BV, mem_cons_self→BW
open _root_.Bool renaming and_eq_true→Bn
section
open Go.ChangeShapes Go.WideShapes Go.ChangeAt Go.RowKit Go.Deep
def jd {α:Type} (m:Nat) (t:TypeId) (R:CR α):Prop:=
 ∀ (H:Type) (enc:TypeId×Value→H) (w:World) (fuel:Nat) (cs:List Value) (x:DataW H×List MemPlace),DataW.trod enc prog w 0 (fun _=>true) true fuel t cs=some x→Rows.uptoBulk x.1≤m→∃ a,R w w.heap.size cs a
theorem Al {α:Type} {m m':Nat} {t:TypeId} {R:CR α} (hm:m'≤m) (h:jd m t R):jd m' t R:=fun H enc w fuel cs x hx hb=>h H enc w fuel cs x hx (by omega)
theorem nt {H:Type} {d:DataW H}:∀ {l:List (DataW H)},d∈l→Rows.uptoBulk d≤Rows.uptoBulkAll l
 | [],h=>by simp at h
 |y::l,h=>by
  simp only [Rows.uptoBulkAll]
  rcases BI.1 h with rfl|h
  ·omega
  ·have:=nt h;omega
def AD (m:Nat):CR ByteArray:=fun _ _ cs s=>cs= [.string s]∧s.size≤maxLen∧s.size≤m
theorem dk {m:Nat} {t:TypeId} (ht:prog.underlying t=some .string):jd m t (AD m):=fun _ _ _ _ _ _ h hb=>by
 obtain ⟨s,rfl,hx,hs⟩:=DataW.trod_string ht h
 refine ⟨s,rfl,hs,?_⟩
 rw [hx] at hb
 simp only [Rows.uptoBulk] at hb
 have:s.data.toList.length=s.size:=rfl
 omega
theorem oY {α:Type} {R:CR α} {t e:TypeId} {k m:Nat} (ht:prog.underlying t=some (.slice e)) (hk:prog.cellsOf e=k) (hk0:0<k) (he:jd m e R):jd (m+1) t (AF k R):=fun H enc w fuel cs x h hb=>by
 rcases open_slice ht h with ⟨rfl,_⟩|⟨a,len,cap,mm,n,D,Pl,rfl,_,hl,hm,hmm,hxx,hx⟩
 ·exact ⟨[],none,0,rfl,Sl.nil_⟩
 ·simp only [if_true] at hmm
  subst hmm
  have hbD:∀ i,i<len→Rows.uptoBulk (D i)≤m:=fun i hi=>by
   rw [hxx] at hb
   simp only [Rows.uptoBulk] at hb
   have:=nt (d:=D i) (l:=(List.range len).map D) (List.mem_map.2 ⟨i,List.mem_range.2 hi,rfl⟩)
   omega
  obtain ⟨xs,hlen,hxs⟩:=ib (p:=fun i y=>∃ ecs:List Value,ecs.length=k∧(∀ j,j<k→w.cell? ((a.add (i*k)).add j)=ecs[j]?)∧R w w.heap.size ecs y) len (fun i hi=>by
   obtain ⟨cs',hc,htr⟩:=hx i (by omega)
   rw [hk] at hc
   obtain ⟨_,h1,h2⟩:=World.cells?_some hc
   obtain ⟨y,hy⟩:=he H enc w n cs' _ htr (hbD i hi)
   exact ⟨y,cs',h1,h2,hy⟩)
  refine ⟨xs,some a,mm,by rw [hlen],by omega,fun i y hy=> ?_⟩
  have hi:i<len:=by rw [←hlen];exact (Bp.1 hy).1
  obtain ⟨ecs0,g1,g2,_⟩:=hxs 0 (xs[0]'(by omega)) (Bk (by omega))
  have hz:w.cell? a=some (ecs0[0]'(by omega)):=by
   have:=g2 0 hk0
   rw [Bk (by omega)] at this
   simpa [Addr.add] using this
  obtain ⟨b,o,rfl⟩:=oX hz
  have hb:=World.block_lt_of_cell? w _ hz
  obtain ⟨ecs,h1,h2,h3⟩:=hxs i y hy
  have hadd:∀ j,((⟨b,o,none⟩:Addr).add (i*k)).add j=⟨b,o+i*k+j,none⟩:=fun j=>by unfold Addr.add;split<;>split<;>simp_all
  refine ⟨b,o,ecs,rfl,hb,h1,fun j u hu=> ?_,h3⟩
  have hj:j<k:=by have:=(Bp.1 hu).1;omega
  rw [←hadd j,h2 j hj,hu]
theorem ay {H:Type} (d:DataW H):1≤Rows.uptoBulk d:=by
 cases d with
 |lit l=>cases l<;>simp [Rows.uptoBulk]
 |_=>simp [Rows.uptoBulk]
theorem Sl.imp {α:Type} {R R':CR α} {k:Nat} {w:World} {B:Nat} {A:Option Addr} {xs:List α} (h:Sl k R w B A xs) (hi:∀ cs x,R w B cs x→R' w B cs x):Sl k R' w B A xs:=
 ⟨h.1,fun i x hx=>by
  obtain ⟨b,o,ecs,h1,h2,h3,h4,h5⟩:=h.2 i x hx
  exact ⟨b,o,ecs,h1,h2,h3,h4,hi _ _ h5⟩⟩
end
section
open Go.ChangeShapes Go.WideShapes Go.ChangeAt Go.RowKit Go.Deep
theorem Am {n:Int} (h:(Lit.int .i64 n).wf=true):nz n:=by
 simp [Lit.wf,IntKind.min,IntKind.max,IntKind.signed,IntKind.bits] at h
 unfold nz;omega
theorem An {n:Int} (h:(Lit.int .u64 n).wf=true):ei n:=by
 simp [Lit.wf,IntKind.min,IntKind.max,IntKind.signed,IntKind.bits] at h
 unfold ei;omega
theorem AE {n:Int} (h:(Lit.int .u8 n).wf=true):u8 n:=by
 simp [Lit.wf,IntKind.min,IntKind.max,IntKind.signed,IntKind.bits] at h
 unfold u8;omega
def AS:CR Int:=fun _ _ cs n=>cs= [.int .i64 n]∧nz n
def AT:CR Int:=fun _ _ cs n=>cs= [.int .u64 n]∧ei n
def A9:CR Int:=fun _ _ cs n=>cs= [.int .u8 n]∧u8 n
def Ba:CR Bool:=fun _ _ cs b=>cs= [.bool b]
theorem lX {m:Nat} {t:TypeId} (ht:prog.underlying t=some (.int .i64)):jd m t AS:=fun _ _ _ _ _ _ h _=>by
 obtain ⟨n,rfl,_,hw⟩:=DataW.trod_int ht h
 exact ⟨n,rfl,Am hw⟩
theorem uu {m:Nat} {t:TypeId} (ht:prog.underlying t=some (.int .u64)):jd m t AT:=fun _ _ _ _ _ _ h _=>by
 obtain ⟨n,rfl,_,hw⟩:=DataW.trod_int ht h
 exact ⟨n,rfl,An hw⟩
theorem qi {m:Nat} {t:TypeId} (ht:prog.underlying t=some (.int .u8)):jd m t A9:=fun _ _ _ _ _ _ h _=>by
 obtain ⟨n,rfl,_,hw⟩:=DataW.trod_int ht h
 exact ⟨n,rfl,AE hw⟩
theorem Ao {m:Nat} {t:TypeId} (ht:prog.underlying t=some .bool):jd m t Ba:=fun _ _ _ _ _ _ h _=>by
 obtain ⟨b,rfl,_⟩:=DataW.trod_bool ht h
 exact ⟨b,rfl⟩
theorem bN {α:Type} {R:CR α} {t e:TypeId} {k m:Nat} (ht:prog.underlying t=some (.slice e)) (hk:prog.cellsOf e=k) (hk0:0<k) (he:jd m e R):jd m t (AF k R):=Al (Nat.le_succ m) (oY ht hk hk0 he)
theorem nu {m:Nat} {t:TypeId} (ht:prog.underlying t=some .string):jd m t iy:=fun H enc w fuel cs x h hb=>by
 obtain ⟨s,e0,h0,-⟩:=dk ht H enc w fuel cs x h hb
 exact ⟨s,e0,h0⟩
theorem qj:prog.cellsOf 3=1:=by kernel_rfl
theorem oZ:prog.cellsOf 38=1:=by kernel_rfl
theorem jO:prog.cellsOf 5=1:=by kernel_rfl
theorem zE:prog.cellsOf 4=1:=by kernel_rfl
theorem bV:prog.cellsOf 9=1:=by kernel_rfl
theorem ym:prog.cellsOf 40=2:=by kernel_rfl
theorem nw:prog.cellsOf 42=3:=by kernel_rfl
theorem jP:prog.cellsOf 84=2:=by kernel_rfl
theorem o6:prog.cellsOf 66=2:=by kernel_rfl
theorem yn:prog.cellsOf 97=7:=by kernel_rfl
theorem uv:prog.cellsOf 70=3:=by kernel_rfl
theorem sd:prog.cellsOf 61=5:=by kernel_rfl
theorem o7:prog.cellsOf 72=3:=by kernel_rfl
theorem yo:prog.cellsOf 52=10:=by kernel_rfl
theorem ux:prog.cellsOf 56=2:=by kernel_rfl
theorem jQ:prog.cellsOf 58=5:=by kernel_rfl
theorem jR:prog.cellsOf 45=9:=by kernel_rfl
theorem lY:prog.cellsOf 47=14:=by kernel_rfl
theorem tV:prog.cellsOf 30=7:=by kernel_rfl
theorem kK:prog.cellsOf 23=1:=by kernel_rfl
theorem zF:prog.cellsOf 68=1:=by kernel_rfl
theorem sg:prog.cellsOf 43=1:=by kernel_rfl
theorem jS:prog.cellsOf 27=1:=by kernel_rfl
theorem zG:prog.cellsOf 54=1:=by kernel_rfl
theorem uy:prog.cellsOf 53=1:=by kernel_rfl
theorem jb:prog.cellsOf 28=1:=by kernel_rfl
theorem yp:prog.cellsOf 59=1:=by kernel_rfl
theorem tW:prog.cellsOf 22=1:=by kernel_rfl
theorem wJ:prog.cellsOf 24=1:=by kernel_rfl
theorem tX:prog.cellsOf 25=1:=by kernel_rfl
theorem o8:prog.cellsOf 26=1:=by kernel_rfl
def AU:CR (Int×Int):=fun _ _ cs x=>cs= [.int .u64 x.1,.int .u64 x.2]∧ei x.1∧ei x.2
theorem zH {m:Nat} (hm:m≤sm):jd m 40 AU:=fun H enc w fuel cs x h hb=>by
 obtain ⟨xs,n,_,rfl,hl,hlen,hg⟩:=DataW.trod_struct underlying40 h
 rw [ym] at hl
 match xs,hlen with
 | [y0,y1],_=>
  simp only [BF,List.map_nil,Rows.uptoBulk,Rows.uptoBulkAll] at hb
  have p0:=ay y0.1
  have p1:=ay y1.1
  match cs,hl with
  | [a0,a1],_=>
   obtain ⟨v0,e0,h0⟩:=uu (m:=m) underlying38 H enc w n [a0] y0 (by simpa [oZ] using hg 0 _ rfl) (by omega)
   obtain ⟨v1,e1,h1⟩:=uu (m:=m) underlying38 H enc w n [a1] y1 (by simpa [oZ] using hg 1 _ rfl) (by omega)
   cases e0
   cases e1
   exact ⟨(v0,v1),rfl,h0,h1⟩
theorem lZ {m:Nat} (hm:m≤sm):jd m 42 Ap:=fun H enc w fuel cs x h hb=>by
 obtain ⟨xs,n,_,rfl,hl,hlen,hg⟩:=DataW.trod_struct underlying42 h
 rw [nw] at hl
 match xs,hlen with
 | [y0,y1],_=>
  simp only [BF,List.map_nil,Rows.uptoBulk,Rows.uptoBulkAll] at hb
  have p0:=ay y0.1
  have p1:=ay y1.1
  match cs,hl with
  | [a0,a1,a2],_=>
   obtain ⟨v0,e0,h0⟩:=lX (m:=m) underlying3 H enc w n [a0] y0 (by simpa [qj] using hg 0 _ rfl) (by omega)
   obtain ⟨v1,e1,h1,g1⟩:=(zH hm) H enc w n [a1,a2] y1 (by simpa [ym] using hg 1 _ rfl) (by omega)
   cases e0
   cases e1
   exact ⟨(v0,v1),rfl,h0,h1,g1⟩
theorem kL {m:Nat} (hm:m≤sm):jd m 84 sq:=fun H enc w fuel cs x h hb=>by
 obtain ⟨xs,n,_,rfl,hl,hlen,hg⟩:=DataW.trod_struct underlying84 h
 rw [jP] at hl
 match xs,hlen with
 | [y0,y1],_=>
  simp only [BF,List.map_nil,Rows.uptoBulk,Rows.uptoBulkAll] at hb
  have p0:=ay y0.1
  have p1:=ay y1.1
  match cs,hl with
  | [a0,a1],_=>
   obtain ⟨v0,e0,h0,k0⟩:=dk (m:=m) underlying9 H enc w n [a0] y0 (by simpa [bV] using hg 0 _ rfl) (by omega)
   obtain ⟨v1,e1,h1⟩:=lX (m:=m) underlying3 H enc w n [a1] y1 (by simpa [qj] using hg 1 _ rfl) (by omega)
   cases e0
   cases e1
   exact ⟨(v0,v1),rfl,h0,h1⟩
theorem tY {m:Nat} (hm:m≤sm):jd m 66 yv:=fun H enc w fuel cs x h hb=>by
 obtain ⟨xs,n,_,rfl,hl,hlen,hg⟩:=DataW.trod_struct underlying66 h
 rw [o6] at hl
 match xs,hlen with
 | [y0,y1],_=>
  simp only [BF,List.map_nil,Rows.uptoBulk,Rows.uptoBulkAll] at hb
  have p0:=ay y0.1
  have p1:=ay y1.1
  match cs,hl with
  | [a0,a1],_=>
   obtain ⟨v0,e0,h0,k0⟩:=dk (m:=m) underlying9 H enc w n [a0] y0 (by simpa [bV] using hg 0 _ rfl) (by omega)
   obtain ⟨v1,A1,c1,e1,h1⟩:=bN (t:=23) (e:=84) (k:=2) underlying23 jP (by decide) (kL hm) H enc w n [a1] y1 (by simpa [kK] using hg 1 _ rfl) (by omega)
   cases e0
   cases e1
   exact ⟨⟨v0,v1⟩,A1,c1,rfl,h0,h1⟩
theorem zI {m:Nat} (hm:m≤sm):jd m 97 Aq:=fun H enc w fuel cs x h hb=>by
 obtain ⟨xs,n,_,rfl,hl,hlen,hg⟩:=DataW.trod_struct underlying97 h
 rw [yn] at hl
 match xs,hlen with
 | [y0,y1,y2],_=>
  simp only [BF,List.map_nil,Rows.uptoBulk,Rows.uptoBulkAll] at hb
  have p0:=ay y0.1
  have p1:=ay y1.1
  have p2:=ay y2.1
  match cs,hl with
  | [a0,a1,a2,a3,a4,a5,a6],_=>
   obtain ⟨v0,e0,h0⟩:=qi (m:=m) underlying5 H enc w n [a0] y0 (by simpa [jO] using hg 0 _ rfl) (by omega)
   obtain ⟨v1,e1,h1⟩:=(lZ hm) H enc w n [a1,a2,a3] y1 (by simpa [nw] using hg 1 _ rfl) (by omega)
   obtain ⟨v2,e2,h2⟩:=(lZ hm) H enc w n [a4,a5,a6] y2 (by simpa [nw] using hg 2 _ rfl) (by omega)
   cases e0
   cases e1
   cases e2
   exact ⟨⟨v0,v1,v2⟩,rfl,h0,h1,h2⟩
theorem yq {m:Nat} (hm:m≤sm):jd m 70 Ar:=fun H enc w fuel cs x h hb=>by
 obtain ⟨xs,n,_,rfl,hl,hlen,hg⟩:=DataW.trod_struct underlying70 h
 rw [uv] at hl
 match xs,hlen with
 | [y0,y1,y2],_=>
  simp only [BF,List.map_nil,Rows.uptoBulk,Rows.uptoBulkAll] at hb
  have p0:=ay y0.1
  have p1:=ay y1.1
  have p2:=ay y2.1
  match cs,hl with
  | [a0,a1,a2],_=>
   obtain ⟨v0,e0⟩:=Ao (m:=m) underlying4 H enc w n [a0] y0 (by simpa [zE] using hg 0 _ rfl) (by omega)
   obtain ⟨v1,A1,c1,e1,h1⟩:=bN (t:=68) (e:=97) (k:=7) underlying68 yn (by decide) (zI hm) H enc w n [a1] y1 (by simpa [zF] using hg 1 _ rfl) (by omega)
   obtain ⟨v2,e2,h2,k2⟩:=dk (m:=m) underlying9 H enc w n [a2] y2 (by simpa [bV] using hg 2 _ rfl) (by omega)
   cases e0
   cases e1
   cases e2
   exact ⟨⟨v0,v1,v2⟩,A1,c1,rfl,h2,h1⟩
def Bb:CR (ByteArray×List Lt):=fun w B cs x=>∃ A cap,cs= [.string x.1,.slice A x.2.length cap]∧x.1.size≤maxLen∧Sl 3 Ap w B A x.2
theorem yr {m:Nat} (hm:m≤sm):jd m 56 Bb:=fun H enc w fuel cs x h hb=>by
 obtain ⟨xs,n,_,rfl,hl,hlen,hg⟩:=DataW.trod_struct underlying56 h
 rw [ux] at hl
 match xs,hlen with
 | [y0,y1],_=>
  simp only [BF,List.map_nil,Rows.uptoBulk,Rows.uptoBulkAll] at hb
  have p0:=ay y0.1
  have p1:=ay y1.1
  match cs,hl with
  | [a0,a1],_=>
   obtain ⟨v0,e0,h0,k0⟩:=dk (m:=m) underlying9 H enc w n [a0] y0 (by simpa [bV] using hg 0 _ rfl) (by omega)
   obtain ⟨v1,A1,c1,e1,h1⟩:=bN (t:=54) (e:=42) (k:=3) underlying54 nw (by decide) (lZ hm) H enc w n [a1] y1 (by simpa [zG] using hg 1 _ rfl) (by omega)
   cases e0
   cases e1
   exact ⟨(v0,v1),A1,c1,rfl,h0,h1⟩
def AV (m:Nat):CR Ex:=fun w B cs e=>RE w B cs e∧bQ e≤m
theorem nx {n:Nat}:∀ {l:List Ex},(∀ x∈l,bQ x≤n)→bC l≤n
 | [],_=>Bo _
 |x::l,h=>by
  have h1:=h x BW
  have h2:=nx fun y hy=>h y (BT _ hy)
  simp only [bC];omega
theorem zJ:∀ m:Nat,m≤sm→jd m 45 (AV m):=fun m=>by
 induction m using Nat.strongRecOn with
 |_ m ih=>
  intro hm H enc w fuel cs x h hb
  obtain ⟨xs,n,_,rfl,hl,hlen,hg⟩:=DataW.trod_struct underlying45 h
  rw [jR] at hl
  match xs,hlen with
  | [y0,y1,y2,y3,y4,y5,y6],_=>
   simp only [BF,List.map_nil,Rows.uptoBulk,Rows.uptoBulkAll] at hb
   have p0:=ay y0.1
   have p1:=ay y1.1
   have p2:=ay y2.1
   have p3:=ay y3.1
   have p4:=ay y4.1
   have p5:=ay y5.1
   have p6:=ay y6.1
   match cs,hl with
   | [a0,a1,a2,a3,a4,a5,a6,a7,a8],_=>
    obtain ⟨v0,e0,h0⟩:=qi (m:=m) underlying5 H enc w n [a0] y0 (by simpa [jO] using hg 0 _ rfl) (by omega)
    obtain ⟨v1,e1,h1⟩:=(lZ hm) H enc w n [a1,a2,a3] y1 (by simpa [nw] using hg 1 _ rfl) (by omega)
    obtain ⟨v2,e2,h2,k2⟩:=dk (m:=m) underlying9 H enc w n [a4] y2 (by simpa [bV] using hg 2 _ rfl) (by omega)
    obtain ⟨v3,e3,h3,k3⟩:=dk (m:=m) underlying9 H enc w n [a5] y3 (by simpa [bV] using hg 3 _ rfl) (by omega)
    obtain ⟨v4,e4,h4⟩:=lX (m:=m) underlying3 H enc w n [a6] y4 (by simpa [qj] using hg 4 _ rfl) (by omega)
    obtain ⟨v5,e5,h5⟩:=lX (m:=m) underlying3 H enc w n [a7] y5 (by simpa [qj] using hg 5 _ rfl) (by omega)
    obtain ⟨v6,A6,c6,e6,h6⟩:=oY (m:=m-2) (t:=43) (e:=45) (k:=9) underlying43 jR (by decide) (ih (m-2) (by omega) (by omega)) H enc w n [a8] y6 (by simpa [sg] using hg 6 _ rfl) (by omega)
    cases e0
    cases e1
    cases e2
    cases e3
    cases e4
    cases e5
    cases e6
    have hd:bC v6≤m-2:=nx fun x hx=>by
     obtain ⟨i,hi⟩:=List.getElem?_of_mem hx
     obtain ⟨_,_,_,_,_,_,_,_,hd⟩:=h6.2 i x hi
     exact hd
    have hI:=RE.intro (cap:=c6) ⟨h0,h1,h2,h3,h4,h5⟩ (by omega:bC v6<sm) (h6.imp fun _ _ hr=>⟨hr.1,Bj hr.2 (by omega)⟩)
    exact ⟨.mk v0 v1 v2 v3 v4 v5 v6,hI.1,by simp only [bQ];omega⟩
theorem ny {m:Nat} (hm:m≤sm):jd m 45 dL:=fun H enc w fuel cs x h hb=>by
 obtain ⟨e,h1,h2⟩:=zJ m hm H enc w fuel cs x h hb
 exact ⟨e,h1,Bj h2 hm⟩
theorem wK {m:Nat} (hm:m≤sm):jd m 61 wS:=fun H enc w fuel cs x h hb=>by
 obtain ⟨xs,n,_,rfl,hl,hlen,hg⟩:=DataW.trod_struct underlying61 h
 rw [sd] at hl
 match xs,hlen with
 | [y0,y1,y2,y3,y4],_=>
  simp only [BF,List.map_nil,Rows.uptoBulk,Rows.uptoBulkAll] at hb
  have p0:=ay y0.1
  have p1:=ay y1.1
  have p2:=ay y2.1
  have p3:=ay y3.1
  have p4:=ay y4.1
  match cs,hl with
  | [a0,a1,a2,a3,a4],_=>
   obtain ⟨v0,e0,h0,k0⟩:=dk (m:=m) underlying9 H enc w n [a0] y0 (by simpa [bV] using hg 0 _ rfl) (by omega)
   obtain ⟨v1,A1,c1,e1,h1⟩:=bN (t:=28) (e:=9) (k:=1) underlying28 bV (by decide) (nu (m:=m) underlying9) H enc w n [a1] y1 (by simpa [jb] using hg 1 _ rfl) (by omega)
   obtain ⟨v2,e2,h2,k2⟩:=dk (m:=m) underlying9 H enc w n [a2] y2 (by simpa [bV] using hg 2 _ rfl) (by omega)
   obtain ⟨v3,A3,c3,e3,h3⟩:=bN (t:=43) (e:=45) (k:=9) underlying43 jR (by decide) (ny hm) H enc w n [a3] y3 (by simpa [sg] using hg 3 _ rfl) (by omega)
   obtain ⟨v4,A4,c4,e4,h4⟩:=bN (t:=59) (e:=70) (k:=3) underlying59 uv (by decide) (yq hm) H enc w n [a4] y4 (by simpa [yp] using hg 4 _ rfl) (by omega)
   cases e0
   cases e1
   cases e2
   cases e3
   cases e4
   exact ⟨⟨v0,v1,v2,v3,v4⟩,A1,c1,A3,c3,A4,c4,rfl,h0,h2,h1,h3,h4⟩
theorem zK {m:Nat} (hm:m≤sm):jd m 52 As:=fun H enc w fuel cs x h hb=>by
 obtain ⟨xs,n,_,rfl,hl,hlen,hg⟩:=DataW.trod_struct underlying52 h
 rw [yo] at hl
 match xs,hlen with
 | [y0,y1],_=>
  simp only [BF,List.map_nil,Rows.uptoBulk,Rows.uptoBulkAll] at hb
  have p0:=ay y0.1
  have p1:=ay y1.1
  match cs,hl with
  | [a0,a1,a2,a3,a4,a5,a6,a7,a8,a9],_=>
   obtain ⟨v0,h0⟩:=(ny hm) H enc w n [a0,a1,a2,a3,a4,a5,a6,a7,a8] y0 (by simpa [jR] using hg 0 _ rfl) (by omega)
   obtain ⟨v1,e1,h1⟩:=qi (m:=m) underlying5 H enc w n [a9] y1 (by simpa [jO] using hg 1 _ rfl) (by omega)
   cases e1
   exact ⟨⟨v0,v1⟩,_,rfl,h1,h0⟩
theorem wL {m:Nat} (hm:m≤sm):jd m 58 wT:=fun H enc w fuel cs x h hb=>by
 obtain ⟨xs,n,_,rfl,hl,hlen,hg⟩:=DataW.trod_struct underlying58 h
 rw [jQ] at hl
 match xs,hlen with
 | [y0,y1,y2,y3],_=>
  simp only [BF,List.map_nil,Rows.uptoBulk,Rows.uptoBulkAll] at hb
  have p0:=ay y0.1
  have p1:=ay y1.1
  have p2:=ay y2.1
  have p3:=ay y3.1
  match cs,hl with
  | [a0,a1,a2,a3,a4],_=>
   obtain ⟨v0,e0,h0,k0⟩:=dk (m:=m) underlying9 H enc w n [a0] y0 (by simpa [bV] using hg 0 _ rfl) (by omega)
   obtain ⟨v1,A1,c1,e1,h1⟩:=bN (t:=53) (e:=52) (k:=10) underlying53 yo (by decide) (zK hm) H enc w n [a1] y1 (by simpa [uy] using hg 1 _ rfl) (by omega)
   obtain ⟨v2,A2,c2,e2,h2⟩:=bN (t:=28) (e:=9) (k:=1) underlying28 bV (by decide) (nu (m:=m) underlying9) H enc w n [a2] y2 (by simpa [jb] using hg 2 _ rfl) (by omega)
   obtain ⟨v3,A3,c3,e3,h3,k3⟩:=(yr hm) H enc w n [a3,a4] y3 (by simpa [ux] using hg 3 _ rfl) (by omega)
   cases e0
   cases e1
   cases e2
   cases e3
   exact ⟨⟨v0,v1,v2,v3.1,v3.2⟩,A1,c1,A2,c2,A3,c3,rfl,h0,h3,h1,h2,k3⟩
def Bc:CR Pg:=fun w B cs p=>∃ A1 A2 A3 A4 A5 A6 A7 c1 c2 c3 c4 c5 c6 c7,cs=AW p A1 A2 A3 A4 A5 A6 A7 c1 c2 c3 c4 c5 c6 c7∧bu w B A1 A2 A3 A4 A5 A6 A7 p
end
section
open Go.ChangeShapes Go.WideShapes Go.ChangeAt Go.RowKit Go.Deep
theorem si {α H:Type} {mu:α→Nat}:∀ (len:Nat) (D:Nat→DataW H) (xs:List α),xs.length=len→(∀ i y,xs[i]? =some y→mu y≤Rows.uptoBulk (D i))→(xs.map mu).sum≤Rows.uptoBulkAll ((List.range len).map D)
 |0,D,xs,h,_=>by simp [List.eq_nil_of_length_eq_zero h]
 |len+1,D,[],h,_=>by simp at h
 |len+1,D,x::xs,h,hm=>by
  have ih:=si len (fun i=>D (i+1)) xs (by simpa using h) fun i y hy=>hm (i+1) y (by simpa using hy)
  have h0:=hm 0 x rfl
  rw [List.range_succ_eq_map,BF,BF,List.map_map]
  simp only [Rows.uptoBulkAll,List.sum_cons]
  have e:List.map (D∘Nat.succ) (List.range len)=List.map (fun i=>D (i+1)) (List.range len):=rfl
  rw [e]
  omega
def rC {α:Type} (R:CR α) (mu:α→Nat) (m:Nat):CR α:=fun w B cs a=>R w B cs a∧mu a≤m
theorem gu {α:Type} {R:CR α} {t e:TypeId} {k m:Nat} (mu:α→Nat) (ht:prog.underlying t=some (.slice e)) (hk:prog.cellsOf e=k) (hk0:0<k) (he:∀ m',m'≤m→jd m' e (rC R mu m')):
  jd (m+1) t (rC (AF k R) (fun xs=>(xs.map mu).sum) m):=fun H enc w fuel cs x h hb=>by
 rcases open_slice ht h with ⟨rfl,_⟩|⟨a,len,cap,mm,n,D,Pl,rfl,_,hl,hm,hmm,hxx,hx⟩
 ·exact ⟨[],⟨none,0,rfl,Sl.nil_⟩,by simp⟩
 ·simp only [if_true] at hmm
  subst hmm
  have hbA:Rows.uptoBulkAll ((List.range len).map D)≤m:=by
   rw [hxx] at hb
   simp only [Rows.uptoBulk] at hb
   omega
  have hbD:∀ i,i<len→Rows.uptoBulk (D i)≤m:=fun i hi=>by
   have:=nt (d:=D i) (l:=(List.range len).map D) (List.mem_map.2 ⟨i,List.mem_range.2 hi,rfl⟩)
   omega
  obtain ⟨xs,hlen,hxs⟩:=ib (p:=fun i y=>(∃ ecs:List Value,ecs.length=k∧(∀ j,j<k→w.cell? ((a.add (i*k)).add j)=ecs[j]?)∧R w w.heap.size ecs y)∧mu y≤Rows.uptoBulk (D i)) len (fun i hi=>by
   obtain ⟨cs',hc,htr⟩:=hx i (by omega)
   rw [hk] at hc
   obtain ⟨_,h1,h2⟩:=World.cells?_some hc
   obtain ⟨y,hy,hmu⟩:=he (Rows.uptoBulk (D i)) (hbD i hi) H enc w n cs' _ htr (Bm _)
   exact ⟨y,⟨cs',h1,h2,hy⟩,hmu⟩)
  refine ⟨xs,⟨some a,mm,by rw [hlen],by omega,fun i y hy=> ?_⟩,Bj (si len D xs hlen fun i y hy=>(hxs i y hy).2) hbA⟩
  have hi:i<len:=by rw [←hlen];exact (Bp.1 hy).1
  obtain ⟨⟨ecs0,g1,g2,_⟩,_⟩:=hxs 0 (xs[0]'(by omega)) (Bk (by omega))
  have hz:w.cell? a=some (ecs0[0]'(by omega)):=by
   have:=g2 0 hk0
   rw [Bk (by omega)] at this
   simpa [Addr.add] using this
  obtain ⟨b,o,rfl⟩:=oX hz
  have hb:=World.block_lt_of_cell? w _ hz
  obtain ⟨⟨ecs,h1,h2,h3⟩,_⟩:=hxs i y hy
  have hadd:∀ j,((⟨b,o,none⟩:Addr).add (i*k)).add j=⟨b,o+i*k+j,none⟩:=fun j=>by unfold Addr.add;split<;>split<;>simp_all
  refine ⟨b,o,ecs,rfl,hb,h1,fun j u hu=> ?_,h3⟩
  have hj:j<k:=by have:=(Bp.1 hu).1;omega
  rw [←hadd j,h2 j hj,hu]
theorem jc:∀ l:List St,bE l=(l.map cQ).sum
 | []=>rfl
 |s::l=>by simp only [bE,BF,List.sum_cons,jc l]
theorem uz {l:List St}:l.length≤(l.map cQ).sum:=by
 induction l with
 |nil=>simp
 |cons x l ih=>
  have:1≤cQ x:=by obtain ⟨kind,head,name,e,thn,els⟩:=x;simp only [cQ];omega
  simp only [BF,List.sum_cons,By];omega
theorem ys:∀ m:Nat,m≤sm→jd m 47 (rC dR cQ m):=fun m=>by
 induction m using Nat.strongRecOn with
 |_ m ih=>
  intro hm H enc w fuel cs x h hb
  obtain ⟨xs,n,_,rfl,hl,hlen,hg⟩:=DataW.trod_struct underlying47 h
  rw [lY] at hl
  match xs,hlen with
  | [y0,y1,y2,y3,y4,y5],_=>
   simp only [BF,List.map_nil,Rows.uptoBulk,Rows.uptoBulkAll] at hb
   have p0:=ay y0.1
   have p1:=ay y1.1
   have p2:=ay y2.1
   have p3:=ay y3.1
   have p4:=ay y4.1
   have p5:=ay y5.1
   match cs,hl with
   | [a0,a1,a2,a3,a4,a5,a6,a7,a8,a9,a10,a11,a12,a13],_=>
    obtain ⟨v0,e0,h0⟩:=qi (m:=m) underlying5 H enc w n [a0] y0 (by simpa [jO] using hg 0 _ rfl) (by omega)
    obtain ⟨v1,e1,h1,k1⟩:=dk (m:=m) underlying9 H enc w n [a1] y1 (by simpa [bV] using hg 1 _ rfl) (by omega)
    obtain ⟨v2,e2,h2,k2⟩:=dk (m:=m) underlying9 H enc w n [a2] y2 (by simpa [bV] using hg 2 _ rfl) (by omega)
    obtain ⟨v3,h3⟩:=ny hm H enc w n [a3,a4,a5,a6,a7,a8,a9,a10,a11] y3 (by simpa [jR] using hg 3 _ rfl) (by omega)
    obtain ⟨v4,⟨A4,c4,e4,h4⟩,k4⟩:=gu (m:=Rows.uptoBulk y4.1-1) (t:=27) (e:=47) (k:=14) cQ underlying27 lY (by decide) (fun m' hm'=>ih m' (by omega) (by omega)) H enc w n [a12] y4 (by simpa [jS] using hg 4 _ rfl) (by omega)
    obtain ⟨v5,⟨A5,c5,e5,h5⟩,k5⟩:=gu (m:=Rows.uptoBulk y5.1-1) (t:=27) (e:=47) (k:=14) cQ underlying27 lY (by decide) (fun m' hm'=>ih m' (by omega) (by omega)) H enc w n [a13] y5 (by simpa [jS] using hg 5 _ rfl) (by omega)
    have n4:=uz (l:=v4)
    have n5:=uz (l:=v5)
    simp only at k4 k5
    cases e0
    cases e1
    cases e2
    cases e4
    cases e5
    exact ⟨.mk v0 v1 v2 v3 v4 v5,RS.intro (cap:=c4) (cap':=c5) ⟨h0,by omega,by omega⟩ ⟨by omega,by omega⟩ h3 h4 h5,by
     simp only [cQ,jc];omega⟩
theorem o9 {m:Nat} (hm:m+1≤sm):jd (m+1) 27 (rC (AF 14 dR) bE m):=fun H enc w fuel cs x h hb=>by
 obtain ⟨v,h1,h2⟩:=gu (m:=m) (t:=27) (e:=47) (k:=14) cQ underlying27 lY (by decide) (fun m' hm'=>ys m' (by omega)) H enc w fuel cs x h hb
 exact ⟨v,h1,by rw [jc];exact h2⟩
theorem sj {m:Nat} (hm:m≤sm):jd m 72 (rC yw (fun a:Ac=>bE a.body) m):=fun H enc w fuel cs x h hb=>by
 obtain ⟨xs,n,_,rfl,hl,hlen,hg⟩:=DataW.trod_struct underlying72 h
 rw [o7] at hl
 match xs,hlen with
 | [y0,y1,y2],_=>
  simp only [BF,List.map_nil,Rows.uptoBulk,Rows.uptoBulkAll] at hb
  have p0:=ay y0.1
  have p1:=ay y1.1
  have p2:=ay y2.1
  match cs,hl with
  | [a0,a1,a2],_=>
   obtain ⟨v0,e0,h0,k0⟩:=dk (m:=m) underlying9 H enc w n [a0] y0 (by simpa [bV] using hg 0 _ rfl) (by omega)
   obtain ⟨v1,A1,c1,e1,h1⟩:=bN (t:=23) (e:=84) (k:=2) underlying23 jP (by decide) (kL hm) H enc w n [a1] y1 (by simpa [kK] using hg 1 _ rfl) (by omega)
   obtain ⟨v2,⟨A2,c2,e2,h2⟩,k2⟩:=o9 (m:=m-1) (by omega) H enc w n [a2] y2 (by simpa [jS] using hg 2 _ rfl) (by omega)
   cases e0
   cases e1
   cases e2
   exact ⟨⟨v0,v1,v2⟩,⟨A1,c1,A2,c2,rfl,h0,h1,h2⟩,Bj k2 (by omega)⟩
def yt (p:Pg):Prop:=bE p.control≤sm∧(p.actions.map fun a:Ac=>bE a.body).sum≤sm
theorem qk {m:Nat} (hm:m≤sm):jd m 30 (fun w B cs p=>Bc w B cs p∧yt p):=fun H enc w fuel cs x h hb=>by
 obtain ⟨xs,n,_,rfl,hl,hlen,hg⟩:=DataW.trod_struct underlying30 h
 rw [tV] at hl
 match xs,hlen with
 | [y0,y1,y2,y3,y4,y5,y6],_=>
  simp only [BF,List.map_nil,Rows.uptoBulk,Rows.uptoBulkAll] at hb
  have p0:=ay y0.1
  have p1:=ay y1.1
  have p2:=ay y2.1
  have p3:=ay y3.1
  have p4:=ay y4.1
  have p5:=ay y5.1
  have p6:=ay y6.1
  match cs,hl with
  | [a0,a1,a2,a3,a4,a5,a6],_=>
   obtain ⟨v0,A0,c0,e0,h0⟩:=bN (t:=22) (e:=66) (k:=2) underlying22 o6 (by decide) (tY hm) H enc w n [a0] y0 (by simpa [tW] using hg 0 _ rfl) (by omega)
   obtain ⟨v1,A1,c1,e1,h1⟩:=bN (t:=23) (e:=84) (k:=2) underlying23 jP (by decide) (kL hm) H enc w n [a1] y1 (by simpa [kK] using hg 1 _ rfl) (by omega)
   obtain ⟨v2,A2,c2,e2,h2⟩:=bN (t:=24) (e:=61) (k:=5) underlying24 sd (by decide) (wK hm) H enc w n [a2] y2 (by simpa [wJ] using hg 2 _ rfl) (by omega)
   obtain ⟨v3,⟨A3,c3,e3,h3⟩,k3⟩:=gu (m:=m-1) (t:=25) (e:=72) (k:=3) (fun a:Ac=>bE a.body) underlying25 o7 (by decide) (fun m' hm'=>sj (m:=m') (by omega)) H enc w n [a3] y3 (by simpa [tX] using hg 3 _ rfl) (by omega)
   obtain ⟨v4,A4,c4,e4,h4⟩:=bN (t:=26) (e:=58) (k:=5) underlying26 jQ (by decide) (wL hm) H enc w n [a4] y4 (by simpa [o8] using hg 4 _ rfl) (by omega)
   obtain ⟨v5,⟨A5,c5,e5,h5⟩,k5⟩:=o9 (m:=m-1) (by omega) H enc w n [a5] y5 (by simpa [jS] using hg 5 _ rfl) (by omega)
   obtain ⟨v6,A6,c6,e6,h6⟩:=bN (t:=28) (e:=9) (k:=1) underlying28 bV (by decide) (nu (m:=m) underlying9) H enc w n [a6] y6 (by simpa [jb] using hg 6 _ rfl) (by omega)
   cases e0
   cases e1
   cases e2
   cases e3
   cases e4
   cases e5
   cases e6
   exact ⟨⟨v0,v1,v2,v3,v4,v5,v6⟩,⟨A0,A1,A2,A3,A4,A5,A6,c0,c1,c2,c3,c4,c5,c6,rfl,⟨h0,h1,h2,h3,h4,h5,h6⟩⟩,Bj k5 (by omega),Bj k3 (by omega)⟩
theorem fP {α:Type} {f:α→Nat} {c:Nat}:∀ {l:List α},(∀ x∈l,f x≤c)→(l.map f).sum≤l.length*c
 | [],_=>by simp
 |x::l,h=>by
  have h1:=h x BW
  have h2:=fP (l:=l) fun y hy=>h y (BT _ hy)
  simp only [BF,List.sum_cons,By,Nat.add_mul];omega
theorem pb {α:Type} {f g:α→Nat}:∀ (l:List α),(l.map fun a=>f a+g a).sum=(l.map f).sum+(l.map g).sum
 | []=>rfl
 |x::l=>by simp only [BF,List.sum_cons,pb l];omega
theorem so {p:Pg} (hm:bg p=true) (hc:yt p):(ao p).length≤dd:=by
 rw [iF]
 unfold bg qo at hm
 simp only [Bn,decide_eq_true_eq] at hm
 obtain ⟨⟨⟨⟨⟨⟨⟨⟨h1,h2,h3a,h3,h4,h5,h6⟩,g1⟩,g2⟩,g3⟩,g4⟩,g5⟩,g6⟩,g7⟩:=hm
 obtain ⟨k1,k2⟩:=hc
 have a1:(p.headers.map fun h=>h.fields.length+1).sum≤p.headers.length*17:=fP fun x hx=>by
  have:=Bw.1 g1 x hx
  simp only [iJ,Bn,decide_eq_true_eq] at this
  omega
 have a2:(p.states.map fun s=>1+s.takes.length+1+s.cases_.length).sum≤p.states.length*26:=fP fun x hx=>by
  have:=Bw.1 g3 x hx
  unfold lT at this
  simp only [Bn,decide_eq_true_eq] at this
  obtain ⟨⟨⟨_,t1⟩,_⟩,t2⟩:=this
  split at t2
  ·simp only [Bn,decide_eq_true_eq] at t2;omega
  ·simp only [Bn,Bx] at t2;rw [t2.2];simp only [BV];omega
 have a3:(p.actions.map fun a=>1+a.params.length+bE a.body).sum≤p.actions.length*9+sm:=by
  rw [pb (f:=fun a:Ac=>1+a.params.length) (g:=fun a:Ac=>bE a.body)]
  have:(p.actions.map fun a=>1+a.params.length).sum≤p.actions.length*9:=fP fun x hx=>by
   have:=Bw.1 g4 x hx
   simp only [nB,Bn,decide_eq_true_eq] at this
   omega
  omega
 have a4:(p.tables.map fun t=>1+t.keys.length+t.actions.length+1).sum≤p.tables.length*22:=fP fun x hx=>by
  have:=Bw.1 g5 x hx
  simp only [ob,Bn,decide_eq_true_eq] at this
  omega
 unfold mS
 show _≤100000000
 unfold sm at*
 omega
end
end Go.Proofs.YtbbdhknagofghaaGreat

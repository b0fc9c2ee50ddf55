import Derived.Test.YtbbdhknagofghaaGreatTcp36
set_option linter.all false
set_option maxHeartbeats 8000000
set_option maxRecDepth 100000
open Go.Proofs.Tryz
namespace Go.Proofs.YtbbdhknagofghaaGreat
open _root_.Nat renaming lt_of_lt_of_le→Bg, le_trans→Bj, le_refl→Bm, le_of_eq→Br
open _root_.Go.RowKit.Below renaming refl→Bi
open _root_.Bool renaming and_eq_true→Bn
open _root_.List renaming all_eq_true→Bw, map_cons→BF, mem_of_getElem?→BQ
open Go.RowKit
def kE (x:Int×Int):Ex:=.mk x.1 (0,0,x.2) aB aB 0 0 []
def kX (x:Int×Int):List Value:=uA x.1 (0,0,x.2) aB aB 0 0 none 0 0
def zP:Pg:=⟨[],[],[],[],[],[],[]⟩
theorem AO (w:World) (B:Nat) {x:Int×Int} (h:u8 x.1∧ei x.2):dL w B (kX x) (kE x):=
 RE.intro (args:= []) ⟨h.1,⟨by show nz 0;unfold nz;omega,by show ei 0;unfold ei;omega,h.2⟩,by decide,by decide,by unfold nz;omega,by unfold nz;omega⟩ (by simp [bC,sm]) Sl.nil_
theorem Aw {W:World} {g:Nat} (xs:List (Int×Int)) (hx:∀ x∈xs,u8 x.1∧ei x.2) (hn:xs.length≤2) (hg:g<W.heap.size) (hc:∀ (i:Nat) (u:Value),(xs.flatMap kX)[i]? =some u→W.cell? ⟨g,i,none⟩=some u):Sl 9 dL W W.heap.size (some ⟨g,0,none⟩) (xs.map kE):=by
 refine ⟨by simp [maxLen];omega,fun i e he=> ?_⟩
 rw [List.getElem?_map] at he
 cases hxi:xs[i]? with
 |none=>rw [hxi] at he;cases he
 |some x=>
  rw [hxi] at he
  injection he with he
  subst he
  exact ⟨g,0,kX x,rfl,hg,rfl,fun j u hu=>by
   have:=hc _ u (kN (k:=9) (fun _=>rfl) xs i j x u hxi hu)
   rw [Nat.zero_add];exact this,AO W _ (hx x (BQ hxi))⟩
theorem zv (xs:List (Int×Int)):bC (xs.map kE)<sm:=by
 have:bC (xs.map kE)≤1:=by
  induction xs with
  |nil=>simp [bC]
  |cons x l ih=>simp only [BF,bC,kE,bQ] at ih ⊢;omega
 unfold sm;omega
theorem AP (w:World) (B:Nat):bu w B none none none none none none none zP:=⟨Sl.nil_,Sl.nil_,Sl.nil_,Sl.nil_,Sl.nil_,Sl.nil_,Sl.nil_⟩
theorem AQ {m:Int} (W:World) (g cap:Nat) (op:Int) (xs:List (Int×Int)) (hop:u8 op) (hx:∀ x∈xs,u8 x.1∧ei x.2) (hn:xs.length≤2) (hg:g<W.heap.size) (hc:∀ (i:Nat) (u:Value),(xs.flatMap kX)[i]? =some u→W.cell? ⟨g,i,none⟩=some u) (hz:W.cell? ⟨0,0,none⟩=some (.int .i64 m)) (R:Ty×Int) (hr:db (iz zP (-1) (.mk op (0,0,0) aB aB 0 0 (xs.map kE)))=R):
  Calls prog 16 #[.agg #[.slice none 0 0,.slice none 0 0,.slice none 0 0,.slice none 0 0,.slice none 0 0,.slice none 0 0,.slice none 0 0],.int .i64 (-1),.agg #[.int .u8 op,.int .i64 0,.int .u64 0,.int .u64 0,.string (ByteArray.mk #[]),.string (ByteArray.mk #[]),.int .i64 0,.int .i64 0,.slice (some ⟨g,0,none⟩) xs.length cap]] W fun z w'=>z=.returned (.tuple #[.agg #[.int .i64 R.1.w,.bool R.1.truth,.bool R.1.free],.int .i64 R.2])∧Below W.heap.size W w':=by
 subst hr
 have h0:0<W.heap.size:=World.block_lt_of_cell? (u:=.int .i64 m) (a:=⟨0,0,none⟩) W hz
 have:=yT none none none none none none none zP 0 0 0 0 0 0 0 (m:=m) (act:= -1) (B:=W.heap.size) rfl (.mk op (0,0,0) aB aB 0 0 (xs.map kE)) _ W (Bm _) h0 hz (AP W _) (RE.intro (A:=some ⟨g,0,none⟩) (cap:=cap) ⟨hop,⟨by show nz 0;unfold nz;omega,by show ei 0;unfold ei;omega,by show ei 0;unfold ei;omega⟩,by decide,by decide,by unfold nz;omega,by unfold nz;omega⟩ (zv xs) (Aw xs hx hn hg hc))
 simpa [aq,gw,uA,aB,zP] using this
theorem Ax (n:Int) (W:World):Calls prog 15 #[.int .u64 n] W fun e w'=>e=.returned (.agg #[.int .u8 1,.int .i64 0,.int .u64 0,.int .u64 n,.string (ByteArray.mk #[]),.string (ByteArray.mk #[]),.int .i64 0,.int .i64 0,.slice none 0 0])∧Below W.heap.size W w':=by
 go_enter func15,ntmps15
 go_wp2
 exact bodyPost_ret (v:=.agg #[.int .u8 1,.int .i64 0,.int .u64 0,.int .u64 n,.string (ByteArray.mk #[]),.string (ByteArray.mk #[]),.int .i64 0,.int .i64 0,.slice none 0 0]) (by simp [results,results15,go_sem]) rfl ⟨rfl,(Bi _ _).alloc (Bm _) _⟩
theorem k1:db (iz zP (-1) (.mk 12 (0,0,0) aB aB 0 0 ([(5,0),(1,1)].map kE)))=(⟨9,false,false⟩,0):=by
 unfold iz;rw [if_pos (by decide+kernel)];rfl
theorem k2:db (iz zP (-1) (.mk 19 (0,0,0) aB aB 0 0 ([(1,1),(1,2)].map kE)))=(⟨0,false,false⟩,10):=by
 unfold iz;rw [if_pos (by decide+kernel)];rfl
theorem k3:db (iz zP (-1) (.mk 9 (0,0,0) aB aB 0 0 ([(5,0)].map kE)))=(⟨0,false,false⟩,9):=by
 unfold iz;rw [if_pos (by decide+kernel)];rfl
theorem gZ {m:Value} {W:World} (o:Obj) (h:W.cell? ⟨0,0,none⟩=some m):(W.alloc o).cell? ⟨0,0,none⟩=some m:=(World.cell?_alloc_past _ _ _ (World.block_lt_of_cell? W _ h)).trans h
theorem lz {m:Value} {W:World} (h:W.cell? ⟨0,0,none⟩=some m):W.drew.cell? ⟨0,0,none⟩=some m:=h
theorem xY {W:World} {g:Nat} {l:List Value} (o:Obj) (h:∀ (i:Nat) (u:Value),l[i]? =some u→W.cell? ⟨g,i,none⟩=some u):∀ (i:Nat) (u:Value),l[i]? =some u→(W.alloc o).cell? ⟨g,i,none⟩=some u:=fun i u hu=>(World.cell?_alloc_past _ _ _ (World.block_lt_of_cell? W _ (h i u hu))).trans (h i u hu)
theorem xZ {W:World} {cs:Array Value} {t:TypeId} {l:List Value} (hl:cs.toList=l):∀ (i:Nat) (u:Value),l[i]? =some u→(W.alloc (.cells cs t)).cell? ⟨W.heap.size,i,none⟩=some u:=fun i u hu=>by
 rw [World.cell?_alloc_at _ _ _ _ rfl,←hl,Array.getElem?_toList] at*
 exact hu
theorem ya {W:World} {cs:Array Value} {t:TypeId} {l:List Value} {n:Nat} (hl:cs.toList=l) (hn:n=W.heap.size):∀ (i:Nat) (u:Value),l[i]? =some u→(W.alloc (.cells cs t)).cell? ⟨n,i,none⟩=some u:=by subst hn;exact xZ hl
theorem Ai {m:Int} (n:Int) (W:World) (hz:W.cell? ⟨0,0,none⟩=some (.int .i64 m)):Calls prog 15 #[.int .u64 n] W fun e w'=>e=.returned (.agg #[.int .u8 1,.int .i64 0,.int .u64 0,.int .u64 n,.string (ByteArray.mk #[]),.string (ByteArray.mk #[]),.int .i64 0,.int .i64 0,.slice none 0 0])∧Below W.heap.size W w'∧w'.cell? ⟨0,0,none⟩=some (.int .i64 m):=
 (Ax n W).mono fun e w' h=>⟨h.1,h.2,(h.2.cell (p:=⟨0,0,none⟩) (World.block_lt_of_cell? W _ hz)).trans hz⟩
theorem yb {m:Value} {W:World} {a i:Nat} (v:Value) (ha:0<a) (h:W.cell? ⟨0,0,none⟩=some m):(W.setCell ⟨a,i,none⟩ v).cell? ⟨0,0,none⟩=some m:=(World.cell?_of_block (Below.heap_setCell W ⟨a,i,none⟩ v 0 (fun e=>by simp only at e;omega))).trans h
theorem fM {n:Nat} {w X Y:World} (h:Below n w X) (hb:Below X.heap.size X Y) (hn:n≤X.heap.size):Below n w Y:=h.trans (hb.mono hn)
theorem zw {wz wx:World} {g:Nat} {n:Int} {tr fr:Bool} (h1:Below wz.heap.size wz wx) (h2:wz.heap.size≤g) (h3:g<wx.heap.size) (h4:wx.cell? ⟨g,0,none⟩=some (.int .i64 n)) (h5:wx.cell? ⟨g,1,none⟩=some (.bool tr)) (h6:wx.cell? ⟨g,2,none⟩=some (.bool fr)):Hid (bZ wz wx g n tr fr):=⟨h1,h2,h3,h4,h5,h6⟩
def Aj (m:Int):Prop:=∀ (w:World),w.cell? ⟨0,0,none⟩=some (.int .i64 m)→Calls prog 6 #[] w fun e w'=>e=.returned (.bool true)∧Below w.heap.size w w'
theorem tA (m:Int):Aj m:=by
 intro w hz
 obtain ⟨w1,hw1,hs1,hb1,hc1,hf1⟩:=al w #[.int .u8 5,.int .i64 0,.int .u64 0,.int .u64 0,.string (ByteArray.mk #[]),.string (ByteArray.mk #[]),.int .i64 0,.int .i64 0,.slice none 0 0] 45
 obtain ⟨e0,e1,e2,e3,e4,e5,e6,e7,e8⟩:=bU hc1
 have hz1:w1.cell? ⟨0,0,none⟩=some (.int .i64 m):=(hb1.cell (p:=⟨0,0,none⟩) (World.block_lt_of_cell? w _ hz)).trans hz
 have hl1:w.heap.size<w1.heap.size:=by omega
 have hw:=aa hb1
 clear hc1 hf1 hb1
 replace hs1:=aa hs1
 replace hw1:=aa hw1
 go_enter func6,ntmps6
 go_upto_region 3 with fail
 rw [hw1.out]
 go_cut [3,4] (fun sp er wx=>∃ g,sp=.pointer (some ⟨g,0,none⟩)∧er=.int .i64 0∧Hid (bZ w1 wx g 9 false false)∧wx.cell? ⟨0,0,none⟩=some (.int .i64 m))
 case first=>
  have hlw:0<w1.heap.size:=by omega
  go_region_held3 (fun w'=>(Below w1.heap.size w1 w'∧∀ b o,b<w1.heap.size→w'.cell? ⟨b,o,none⟩=w1.cell? ⟨b,o,none⟩)∧w'.cell? ⟨0,0,none⟩=some (.int .i64 m))
   (refine ⟨bH ?_,?_⟩<;>repeat (first|(with_reducible assumption)|(with_reducible exact Bi _ _)|(with_reducible refine Below.drew ?_)|(with_reducible refine gZ _ ?_)|(with_reducible refine lz ?_)|(with_reducible refine Below.alloc ?_ ?_ _)|(with_reducible refine fM ?_ hb4 ?_)|(with_reducible refine fM ?_ hb3 ?_)|(with_reducible refine ad ?_ ?_ _ _ _)|(with_reducible refine yb _ ?_ ?_)|omega|(simp only [World.size_drew,World.size_alloc];omega)))
   (first|(go_at_call 15;refine (Ai (m:=m) _ _ (by repeat (first|(with_reducible assumption)|(with_reducible refine gZ _ ?_)|(with_reducible refine lz ?_)|(with_reducible refine yb _ (by omega) ?_)))).mono ?_;rintro e w3 ⟨rfl,hb3,hz3⟩;have kb3:=cM hb3;have hs3:=hb3.size;simp only [World.size_drew,World.size_alloc] at hs3;(have hs3b:w1.heap.size≤w3.heap.size:=(by omega));(try have hs3a:w1.heap.size<w3.heap.size:=(by omega)))|(go_at_call 16;refine (AQ (m:=m) _ _ _ 12 [(5,0),(1,1)] (by unfold u8;omega) (by simp [u8,ei]) (by decide) (by simp<;>omega) (by first|exact xZ rfl|exact xY _ (xZ rfl)|exact ya rfl (by simp)|exact xY _ (ya rfl (by simp))) (by repeat (first|(with_reducible assumption)|(with_reducible refine gZ _ ?_)|(with_reducible refine lz ?_)|(with_reducible refine yb _ (by omega) ?_))) _ k1).mono ?_;rintro e w4 ⟨rfl,hb4⟩;have kb4:=cM hb4;have hs4:=hb4.size;simp only [World.size_drew,World.size_alloc] at hs4;(have hs4a:w3.heap.size<w4.heap.size:=(by omega));(have hs4b:w1.heap.size<w4.heap.size:=(by omega));(try have hs4c:w3.heap.size+1<w4.heap.size:=(by omega));have hz4:w4.cell? ⟨0,0,none⟩=some (.int .i64 m):=(hb4.cell (p:=⟨0,0,none⟩) (by simp<;>omega)).trans (by repeat (first|(with_reducible assumption)|(with_reducible refine gZ _ ?_)|(with_reducible refine lz ?_)|(with_reducible refine yb _ (by omega) ?_)))))
  all_goals go_wp2
  all_goals go_meet
  all_goals refine ⟨_,rfl,rfl,zw ?_ ?_ ?_ ?_ ?_ ?_,?_⟩
  all_goals (repeat (first|(with_reducible assumption)|(with_reducible exact Bi _ _)|(with_reducible refine Below.drew ?_)|(with_reducible refine gZ _ ?_)|(with_reducible refine lz ?_)|(with_reducible refine Below.alloc ?_ ?_ _)|(with_reducible refine fM ?_ hb4 ?_)|(with_reducible refine fM ?_ hb3 ?_)|(with_reducible refine ad ?_ ?_ _ _ _)|(with_reducible refine yb _ ?_ ?_)|omega|(simp only [World.size_drew,World.size_alloc,World.size_setCell];omega)))
  all_goals first|(simp [go_sem];done)|(simp [go_sem,kb4];done)|(simp [go_sem,kb4,kb3];done)|(simp [go_sem,kb4,show w3.heap.size<w3.heap.size+1+1 from (by omega)];done)|(simp [go_sem,kb4,kb3,hs3a,show w1.heap.size<w3.heap.size+1 from (by omega)];done)|skip
 case rest=>
  obtain ⟨g,rfl,rfl,hT,hzc⟩:=hcut
  obtain ⟨hbc,hgz,hgl,s0,s1,s2⟩:=hT.out
  have kbc:=ab hbc
  have q1:=Bg hl1 hbc.size
  have c0:=(kbc.1 _ 0 hl1).trans e0
  have c1:=(kbc.1 _ 1 hl1).trans e1
  have c2:=(kbc.1 _ 2 hl1).trans e2
  have c3:=(kbc.1 _ 3 hl1).trans e3
  have c4:=(kbc.1 _ 4 hl1).trans e4
  have c5:=(kbc.1 _ 5 hl1).trans e5
  have c6:=(kbc.1 _ 6 hl1).trans e6
  have c7:=(kbc.1 _ 7 hl1).trans e7
  have c8:=(kbc.1 _ 8 hl1).trans e8
  have hwc:=aa (hw.out.trans (hbc.mono (by omega)))
  have h0:0<wc.heap.size:=by omega
  clear kbc e0 e1 e2 e3 e4 e5 e6 e7 e8
  go_wp2_with fail
  refine (Ai (m:=m) _ _ hzc).mono ?_
  rintro e w3 ⟨rfl,hb3,hz3⟩
  have kb3:=cM hb3
  have hs3:=hb3.size
  go_wp2_with fail
  refine (Ai (m:=m) _ _ hz3).mono ?_
  rintro e w4 ⟨rfl,hb4,hz4⟩
  have kb4:=cM hb4
  have hs4:=hb4.size
  go_wp2_with fail
  refine (AQ (m:=m) _ _ _ 19 [(1,1),(1,2)] (by unfold u8;omega) (by simp [u8,ei]) (by decide) (by simp) (xZ rfl) (by repeat (first|(with_reducible assumption)|(with_reducible refine gZ _ ?_)|(with_reducible refine lz ?_))) _ k2).mono ?_
  rintro e w6 ⟨rfl,hb6⟩
  have hs6:=hb6.size
  simp only [World.size_alloc] at hs6
  have hz6:w6.cell? ⟨0,0,none⟩=some (.int .i64 m):=(hb6.cell (p:=⟨0,0,none⟩) (by simp)).trans (by repeat (first|(with_reducible assumption)|(with_reducible refine gZ _ ?_)|(with_reducible refine lz ?_)))
  have hbE:Below wc.heap.size wc w6:=hb3.trans (((hb4.mono hs3).trans (((Bi _ _).alloc (Bm _) _).mono (Bj hs3 hs4))).trans (hb6.mono (by simp only [World.size_alloc];omega)))
  have d0:w6.cell? ⟨w.heap.size,0,none⟩=some _:=(hbE.cell (p:=⟨w.heap.size,0,none⟩) q1).trans c0
  have d1:w6.cell? ⟨w.heap.size,1,none⟩=some _:=(hbE.cell (p:=⟨w.heap.size,1,none⟩) q1).trans c1
  have d2:w6.cell? ⟨w.heap.size,2,none⟩=some _:=(hbE.cell (p:=⟨w.heap.size,2,none⟩) q1).trans c2
  have d3:w6.cell? ⟨w.heap.size,3,none⟩=some _:=(hbE.cell (p:=⟨w.heap.size,3,none⟩) q1).trans c3
  have d4:w6.cell? ⟨w.heap.size,4,none⟩=some _:=(hbE.cell (p:=⟨w.heap.size,4,none⟩) q1).trans c4
  have d5:w6.cell? ⟨w.heap.size,5,none⟩=some _:=(hbE.cell (p:=⟨w.heap.size,5,none⟩) q1).trans c5
  have d6:w6.cell? ⟨w.heap.size,6,none⟩=some _:=(hbE.cell (p:=⟨w.heap.size,6,none⟩) q1).trans c6
  have d7:w6.cell? ⟨w.heap.size,7,none⟩=some _:=(hbE.cell (p:=⟨w.heap.size,7,none⟩) q1).trans c7
  have d8:w6.cell? ⟨w.heap.size,8,none⟩=some _:=(hbE.cell (p:=⟨w.heap.size,8,none⟩) q1).trans c8
  have r0:w6.cell? ⟨g,0,none⟩=some _:=(hbE.cell (p:=⟨g,0,none⟩) hgl).trans s0
  have r1:w6.cell? ⟨g,1,none⟩=some _:=(hbE.cell (p:=⟨g,1,none⟩) hgl).trans s1
  have r2:w6.cell? ⟨g,2,none⟩=some _:=(hbE.cell (p:=⟨g,2,none⟩) hgl).trans s2
  have p1:w.heap.size<w6.heap.size:=by omega
  have p2:g<w6.heap.size:=by omega
  clear kb3 kb4 hb3 hb4 hb6 hz3 hz4 s0 s1 s2 c0 c1 c2 c3 c4 c5 c6 c7 c8
  have hbE2:=aa hbE
  clear hbE
  go_wp2_with fail
  refine (AQ (m:=m) _ _ _ 9 [(5,0)] (by unfold u8;omega) (by simp [u8,ei]) (by decide) (by simp<;>omega) (by first|exact xZ rfl|exact ya rfl (by simp)) (by repeat (first|(with_reducible assumption)|(with_reducible refine gZ _ ?_)|(with_reducible refine lz ?_))) _ k3).mono ?_
  rintro e w8 ⟨rfl,hb8⟩
  have kb8:=cM hb8
  have hs8:=hb8.size
  simp only [World.size_alloc] at hs8
  have p3:g<w6.heap.size+1:=by omega
  have p4:g<w6.heap.size+1+1:=by omega
  have p5:g<w8.heap.size:=by omega
  have h6:=aa (hwc.out.trans (hbE2.out.mono (Nat.le_of_lt q1)))
  go_wp2
  go_ret
  refine ⟨rfl,?_⟩
  have h6':=h6.out
  repeat (first|(with_reducible assumption)|(with_reducible refine Below.alloc ?_ ?_ _)|(with_reducible refine fM ?_ hb8 ?_)|(with_reducible refine ad ?_ ?_ _ _ _)|omega|(simp only [World.size_alloc];omega))
theorem zx (A1 A2 A3 A4 A5 A6 A7:Option Addr) (p:Pg) (c1 c2 c3 c4 c5 c6 c7:Nat) (act:Int) (B:Nat) (hm:dz p=true) (op:Int) (lit:Lt) (head name:ByteArray) (hi lo:Int) (a b:Ex) (l:List Ex) (he:aT (.mk op lit head name hi lo (a::b::l))=true) (n14:¬op=14) (n15:¬op=15) (iha:vQ A1 A2 A3 A4 A5 A6 A7 p c1 c2 c3 c4 c5 c6 c7 act B a) (ihb:vQ A1 A2 A3 A4 A5 A6 A7 p c1 c2 c3 c4 c5 c6 c7 act B b):vQ A1 A2 A3 A4 A5 A6 A7 p c1 c2 c3 c4 c5 c6 c7 act B (.mk op lit head name hi lo (a::b::l)):=by
 intro cs w hB hP h
 obtain ⟨A,cap,rfl,-,-,-,-,-,-,hs⟩:=RE.inv h
 have hl:=hs.len
 clear h
 show Calls _ _ #[.agg #[.slice A1 p.headers.length c1,.slice A2 p.metas.length c2,.slice A3 p.states.length c3,.slice A4 p.actions.length c4,.slice A5 p.tables.length c5,.slice A6 p.control.length c6,.slice A7 p.emit.length c7],.int .i64 act,.agg #[.int .u8 op,.int .i64 lit.1,.int .u64 lit.2.1,.int .u64 lit.2.2,.string head,.string name,.int .i64 hi,.int .i64 lo,.slice A (a::b::l).length cap]] _ _
 obtain ⟨wu,hwu,hsu,we,hwe,hse,wz,hwz,hsz,hw,cu,ce,cz,hqz,hl1,hl2,hl3⟩:=ql w (aq p A1 A2 A3 A4 A5 A6 A7 c1 c2 c3 c4 c5 c6 c7) 30 (aO op lit head name hi lo A (a::b::l).length cap) 45 #[.int .i64 0,.bool false,.bool false] 75
 obtain ⟨u0,u1,u2,u3,u4,u5,u6⟩:=aF cu
 obtain ⟨e0,e1,e2,e3,e4,e5,e6,e7,e8⟩:=bU ce
 obtain ⟨z0,z1,z2⟩:=bF cz
 clear cu ce cz
 have hBz:B≤wz.heap.size:=by omega
 have hPz:=aa (hP.below (hw.out.mono hB))
 have hSz:=aa (hs.below ai (hw.out.mono hB))
 clear hP hs
 obtain ⟨g,o,eca,hAa,hbba,hela,hcella,hra⟩:=hSz.out.2 0 a rfl
 subst hAa
 obtain ⟨g',o',ecb,hAb,hbbb,helb,hcellb,hrb⟩:=hSz.out.2 1 b rfl
 obtain ⟨rfl,rfl⟩:g=g'∧o=o':=by simpa using hAb
 have hXa:=aa (fun (W:World) (hb:Below wz.heap.size wz W)=>iha eca W (Bj hBz hb.size) (hPz.out.below (hb.mono hBz)) (ai.keep hra fun q hq=>(hb.mono hBz).cell hq))
 have hXb:=aa (fun (W:World) (hb:Below wz.heap.size wz W)=>ihb ecb W (Bj hBz hb.size) (hPz.out.below (hb.mono hBz)) (ai.keep hrb fun q hq=>(hb.mono hBz).cell hq))
 have hr:bI p act (.mk op lit head name hi lo (a::b::l))=(match bI p act a with| .error n=>.error n| .ok s=>match bI p act b with| .error n=>.error n| .ok t=>cI op a b s t):=by
  simp only [bI]
  cases bI p act a with
  |error n=>rfl
  |ok s=>simp only [if_neg (show ¬(op=14∨op=15) from by omega)];cases bI p act b<;>rfl
 have hop:=xU he
 have hea:aT a=true:=by simp only [aT,sA,Bn] at he;exact he.2.1
 have heb:aT b=true:=by simp only [aT,sA,Bn] at he;exact he.2.2.1
 have hJ:=aa (fun (s t:Ty) (hs:bI p act a=.ok s) (ht:bI p act b=.ok t) (W:World) (hW:Below wz.heap.size wz W)=>tn hm op hop lit head name hi lo a b l hea heb s t hs ht (some ⟨g,o,none⟩) cap B W (Bj hBz hW.size) (hSz.out.below ai (hW.mono hBz)))
 rw [hr]
 clear hr iha ihb he hea heb hop
 have n14q:(op==14)=false:=beq_eq_false_iff_ne.2 n14
 have n15q:(op==15)=false:=beq_eq_false_iff_ne.2 n15
 have hga:g<wz.heap.size:=by omega
 have hln:1<(a::b::l).length:=by simp
 have hln0:((((a::b::l).length:Nat):Int)==0)=false:=beq_eq_false_iff_ne.2 (by omega)
 have hln1:((((a::b::l).length:Nat):Int)==1)=false:=beq_eq_false_iff_ne.2 (by omega)
 have hlp:0<(a::b::l).length:=by omega
 have hlz:(0:Int)<(((a::b::l).length:Nat):Int):=by omega
 have hlz1:(1:Int)<(((a::b::l).length:Nat):Int):=by omega
 generalize (a::b::l).length=nl at*
 have hPJ:Hid (∀ s t,bI p act a=.ok s→bI p act b=.ok t→∃ R,cI op a b s t=R∧∀ W,Below wz.heap.size wz W→Calls prog 181 #[.agg (aO op lit head name hi lo (some ⟨g,o,none⟩) nl cap),.agg #[.int .i64 s.w,.bool s.truth,.bool s.free],.agg #[.int .i64 t.w,.bool t.truth,.bool t.free]] W fun z w'=>z=.returned (.tuple #[.agg (gw (db R).1),.int .i64 (db R).2])∧Below W.heap.size W w'):=aa fun s t hs ht=>⟨_,rfl,hJ.out s t hs ht⟩
 clear hJ
 have hpr:∃ pr:Ty→Ty→Rs Ty,∀ s t,cI op a b s t=pr s t:=⟨_,fun _ _=>rfl⟩
 obtain ⟨pr,hpr⟩:=hpr
 simp only [hpr] at hPJ ⊢
 clear hpr hSz
 generalize hRa:bI p act a=ra at*
 obtain ⟨opa,lita,heada,namea,hia,loa,argsa⟩:=a
 obtain ⟨Aa,capa,rfl,-,-,-,-,-,-,hsa'⟩:=RE.inv hra
 have la:=hsa'.len
 obtain ⟨xa0,xa1,xa2,xa3,xa4,xa5,xa6,xa7,xa8⟩:=cl hcella
 simp only [Nat.zero_mul,Nat.one_mul,Nat.add_zero] at xa0 xa1 xa2 xa3 xa4 xa5 xa6 xa7 xa8
 clear hcella hra hsa' hela
 generalize hRb:bI p act b=rb at*
 obtain ⟨opb,litb,headb,nameb,hib,lob,argsb⟩:=b
 obtain ⟨Ab,capb,rfl,-,-,-,-,-,-,hsb'⟩:=RE.inv hrb
 have lb:=hsb'.len
 obtain ⟨xb0,xb1,xb2,xb3,xb4,xb5,xb6,xb7,xb8⟩:=cl hcellb
 simp only [Nat.zero_mul,Nat.one_mul,Nat.add_zero] at xb0 xb1 xb2 xb3 xb4 xb5 xb6 xb7 xb8
 clear hcellb hrb hsb' helb
 generalize hEa:db ra=Ra at hXa
 obtain ⟨⟨aw,ar,af⟩,an⟩:=Ra
 replace hXa:Hid (∀ W,Below wz.heap.size wz W→Calls prog 111 #[.agg (aq p A1 A2 A3 A4 A5 A6 A7 c1 c2 c3 c4 c5 c6 c7),.int .i64 act,.agg (aO opa lita heada namea hia loa Aa argsa.length capa)] W fun e w'=>e=.returned (.tuple #[.agg #[.int .i64 aw,.bool ar,.bool af],.int .i64 an])∧Below W.heap.size W w'):=hXa
 generalize hEb:db rb=Rb at hXb
 obtain ⟨⟨bw,br,bf⟩,bn⟩:=Rb
 replace hXb:Hid (∀ W,Below wz.heap.size wz W→Calls prog 111 #[.agg (aq p A1 A2 A3 A4 A5 A6 A7 c1 c2 c3 c4 c5 c6 c7),.int .i64 act,.agg (aO opb litb headb nameb hib lob Ab argsb.length capb)] W fun e w'=>e=.returned (.tuple #[.agg #[.int .i64 bw,.bool br,.bool bf],.int .i64 bn])∧Below W.heap.size W w'):=hXb
 replace hXa:=aa (fun (W:World) (hb:Below wz.heap.size wz W)=>(hXa.out W hb).mono fun e w' h=>(⟨h.1,hb.trans (h.2.mono hb.size),h.2⟩:_∧Below wz.heap.size wz w'∧Below W.heap.size W w'))
 have hbw:g<wz.heap.size:=hga
 go_enter func111,ntmps111
 go_upto_region 3 with fail
 go_cut [8,9] (fun sp er wx=>∃ g,sp=.pointer (some ⟨g,0,none⟩)∧er=.int .i64 an∧Hid (bZ wz wx g aw ar af))
 case first=>
  go_region_held3 (fun w'=>Below wz.heap.size wz w'∧∀ b o,b<wz.heap.size→w'.cell? ⟨b,o,none⟩=wz.cell? ⟨b,o,none⟩) (first|exact bH (Bi _ _).drew|exact bH ((Bi _ _).drew.alloc (Bm _) _)|exact bH hb3|exact bH (hb3.alloc hb3.size _)|exact bH (ad (hb3.alloc hb3.size _) hb3.size _ _ _)|exact bH (ad hb3 (Bm _) _ _ _)|exact bH (hb3.alloc hb3.size _))
   ((go_at_call 111;refine (hXa.out _ (by first|exact (Bi _ _).drew|exact (Bi _ _).drew.alloc (Bm _) _)).mono ?_;rintro e w3 ⟨rfl,hb3,hb4⟩;have kb4:=cM hb4))
  all_goals go_wp2
  all_goals go_meet
  all_goals first
   |exact ⟨_,rfl,rfl,aa (bZ.new hb3 _ _ _)⟩
   |exact ⟨_,rfl,rfl,aa (bZ.set rfl hb3 hb4 _ _ _)⟩
 case rest=>
  obtain ⟨ga,rfl,rfl,hT0⟩:=hcut
  obtain ⟨hbc,hgz,hgl,s0,s1,s2⟩:=hT0.out
  have kbc:=ab hbc
  have q1:=Bg hl1 hbc.size
  have q2:=Bg hl2 hbc.size
  have q3:=Bg hl3 hbc.size
  clear hXa
  cases ra with
  |error m=>
   simp only [db,Prod.mk.injEq,Ty.mk.injEq] at hEa
   obtain ⟨⟨rfl,rfl,rfl⟩,rfl⟩:=hEa
   have hmq:(m !=0)=true:=bne_iff_ne.2 (el act _ _ hRa)
   go_wp2
   have k0:=(hbc.cell (p:=⟨w.heap.size+1+1,0,none⟩) hl3).trans z0
   have k1:=(hbc.cell (p:=⟨w.heap.size+1+1,1,none⟩) hl3).trans z1
   have k2:=(hbc.cell (p:=⟨w.heap.size+1+1,2,none⟩) hl3).trans z2
   refine bodyPost_ret (v:=.tuple #[.agg #[.int .i64 0,.bool false,.bool false],.int .i64 m]) (by simp [results,results111,go_sem,k0,k1,k2]) rfl ⟨rfl,?_⟩
   exact ad (hw.out.trans (hbc.mono (by omega))) (by omega) _ _ _
  |ok t=>
   obtain ⟨tw,tr,tf⟩:=t
   simp only [db,Prod.mk.injEq,Ty.mk.injEq] at hEa
   obtain ⟨⟨rfl,rfl,rfl⟩,rfl⟩:=hEa
   obtain ⟨wd,rfl⟩:∃ wd:World,wd=wc:=⟨_,rfl⟩
   have hXc:=aa (fun (W:World) (hb:Below wd.heap.size wd W)=>(hXb.out W (hbc.trans (hb.mono hbc.size))).mono fun e w' h=>(⟨h.1,hb.trans (h.2.mono hb.size),h.2⟩:_∧Below wd.heap.size wd w'∧Below W.heap.size W w'))
   have q4:g<wd.heap.size:=Bg hga hbc.size
   go_upto_region 13 with fail
   go_cut [11,9] (fun sp er wx=>∃ gb,sp=.pointer (some ⟨gb,0,none⟩)∧er=.int .i64 bn∧Hid (bZ wd wx gb bw br bf))
   case first=>
    go_region_held3 (fun w'=>Below wd.heap.size wd w'∧∀ b o,b<wd.heap.size→w'.cell? ⟨b,o,none⟩=wd.cell? ⟨b,o,none⟩) (first|exact bH (Bi _ _).drew|exact bH ((Bi _ _).drew.alloc (Bm _) _)|exact bH hb3|exact bH (hb3.alloc hb3.size _)|exact bH (ad (hb3.alloc hb3.size _) hb3.size _ _ _)|exact bH (ad hb3 (Bm _) _ _ _)|exact bH (hb3.alloc hb3.size _))
     ((go_at_call 111;refine (hXc.out _ (by first|exact (Bi _ _).drew|exact (Bi _ _).drew.alloc (Bm _) _)).mono ?_;rintro e w3 ⟨rfl,hb3,hb4⟩;have kb4:=cM hb4))
    all_goals go_wp2
    all_goals go_meet
    all_goals first
     |exact ⟨_,rfl,rfl,aa (bZ.new hb3 _ _ _)⟩
     |exact ⟨_,rfl,rfl,aa (bZ.set rfl hb3 hb4 _ _ _)⟩
   case rest=>
    obtain ⟨gb,rfl,rfl,hT1⟩:=hcut
    obtain ⟨hbd,hgz2,hgl2,r0,r1,r2⟩:=hT1.out
    have kbd:=ab hbd
    have p1:=Bg q1 hbd.size
    have p2:=Bg q2 hbd.size
    have p3:=Bg q3 hbd.size
    have hbe:=hbc.trans (hbd.mono hbc.size)
    clear hXc hXb
    cases rb with
    |error m=>
     simp only [db,Prod.mk.injEq,Ty.mk.injEq] at hEb
     obtain ⟨⟨rfl,rfl,rfl⟩,rfl⟩:=hEb
     have hmq:(m !=0)=true:=bne_iff_ne.2 (el act _ _ hRb)
     go_wp2
     have k0:=(hbe.cell (p:=⟨w.heap.size+1+1,0,none⟩) hl3).trans z0
     have k1:=(hbe.cell (p:=⟨w.heap.size+1+1,1,none⟩) hl3).trans z1
     have k2:=(hbe.cell (p:=⟨w.heap.size+1+1,2,none⟩) hl3).trans z2
     refine bodyPost_ret (v:=.tuple #[.agg #[.int .i64 0,.bool false,.bool false],.int .i64 m]) (by simp [results,results111,go_sem,k0,k1,k2]) rfl ⟨rfl,?_⟩
     exact ad (hw.out.trans (hbe.mono (by omega))) (by omega) _ _ _
    |ok t2=>
     obtain ⟨uw,ur,uf⟩:=t2
     simp only [db,Prod.mk.injEq,Ty.mk.injEq] at hEb
     obtain ⟨⟨rfl,rfl,rfl⟩,rfl⟩:=hEb
     obtain ⟨R,hRp,hcall⟩:=hPJ.out ⟨tw,tr,tf⟩ ⟨uw,ur,uf⟩ rfl rfl
     have hG:=aa (hcall wc hbe)
     clear hcall hPJ
     generalize hRR:db R=RR at hG
     obtain ⟨⟨rw,rr,rf⟩,rn⟩:=RR
     replace hRR:=aa hRR
     replace hRp:=aa hRp
     simp only [gw] at hG
     go_wp2_with (go_at_call 181;refine hG.out.mono ?_;rintro e w4 ⟨rfl,hb4⟩;have kb4:=ab (hbe.trans (hb4.mono hbe.size));have r3:=Bg p3 hb4.size)
     have hbE:=hbe.trans (hb4.mono hbe.size)
     have k0:=(hbE.cell (p:=⟨w.heap.size+1+1,0,none⟩) hl3).trans z0
     have k1:=(hbE.cell (p:=⟨w.heap.size+1+1,1,none⟩) hl3).trans z1
     have k2:=(hbE.cell (p:=⟨w.heap.size+1+1,2,none⟩) hl3).trans z2
     refine bodyPost_ret (v:=.tuple #[.agg #[.int .i64 rw,.bool rr,.bool rf],.int .i64 rn]) (by simp [results,results111,go_sem,k0,k1,k2]) rfl ⟨by show _=Ending.returned (.tuple #[.agg (gw (db (pr ⟨tw,tr,tf⟩ ⟨uw,ur,uf⟩)).1),.int .i64 (db (pr ⟨tw,tr,tf⟩ ⟨uw,ur,uf⟩)).2]);rw [hRp.out,hRR.out];rfl,?_⟩
     exact ad (hw.out.trans (hbE.mono (by omega))) (by omega) _ _ _
theorem hO (A1 A2 A3 A4 A5 A6 A7:Option Addr) (p:Pg) (c1 c2 c3 c4 c5 c6 c7:Nat) (act:Int) (B:Nat) (hm:dz p=true) (e:Ex):aT e=true→vQ A1 A2 A3 A4 A5 A6 A7 p c1 c2 c3 c4 c5 c6 c7 act B e:=by
 induction e using Ex.ind with
 |h op lit head name hi lo args ih=>
  intro he
  have he':=he
  simp only [aT,Bn,fz,Bw] at he'
  match args,ih,he,he' with
  | [],_,he,_=>exact xV A1 A2 A3 A4 A5 A6 A7 p c1 c2 c3 c4 c5 c6 c7 act B hm op lit head name hi lo he
  | [a],ih,he,he'=>exact zu A1 A2 A3 A4 A5 A6 A7 p c1 c2 c3 c4 c5 c6 c7 act B hm op lit head name hi lo a he (ih a (by simp) (he'.2 a (by simp)))
  |a::b::l,ih,he,he'=>
   have iha:=ih a (by simp) (he'.2 a (by simp))
   have ihb:=ih b (by simp) (he'.2 b (by simp))
   by_cases h14:op=14
   ·subst h14;exact xW A1 A2 A3 A4 A5 A6 A7 p c1 c2 c3 c4 c5 c6 c7 act B hm lit head name hi lo a b l he iha ihb
   ·by_cases h15:op=15
    ·subst h15;exact xX A1 A2 A3 A4 A5 A6 A7 p c1 c2 c3 c4 c5 c6 c7 act B hm lit head name hi lo a b l he iha ihb
    ·exact zx A1 A2 A3 A4 A5 A6 A7 p c1 c2 c3 c4 c5 c6 c7 act B hm op lit head name hi lo a b l he h14 h15 iha ihb
theorem m9 (A1 A2 A3 A4 A5 A6 A7:Option Addr) (p:Pg) (c1 c2 c3 c4 c5 c6 c7:Nat) (act:Int) (B:Nat) (hm:dz p=true) (e:Ex) (he:aT e=true) (n:Nat) (h1:1≤n) (h2:n≤128) (cs:List Value) (w:World) (hB:B≤w.heap.size) (hP:bu w B A1 A2 A3 A4 A5 A6 A7 p) (hr:dL w B cs e):
  Calls prog 113 #[.agg (aq p A1 A2 A3 A4 A5 A6 A7 c1 c2 c3 c4 c5 c6 c7),.int .i64 act,.agg cs.toArray,.int .i64 (n:Int)] w fun z w'=>z=.returned (.int .i64 (bS (dE p act e n)))∧Below w.heap.size w w':=by
 unfold aq
 have hX0:=aa (fun (W:World) (hW:Below w.heap.size w W)=>hO A1 A2 A3 A4 A5 A6 A7 p c1 c2 c3 c4 c5 c6 c7 act B hm e he cs W (Bj hB hW.size) (hP.below (hW.mono hB)) (ai.keep hr fun q hq=>(hW.mono hB).cell hq))
 have hF0:=aa (fun (t:Ty) (ht:bI p act e=.ok t) (hf:t.free=true) (W:World) (hW:Below w.heap.size w W)=>eS hm n h1 h2 e he ⟨t,ht,hf⟩ cs W B (Bj hB hW.size) (ai.keep hr fun q hq=>(hW.mono hB).cell hq))
 have hv0:=aa (show dE p act e n=(match bI p act e with
  | .error n=>.error n
  | .ok t=>if t.truth then .error 9 else if t.free then (if bB n e then .ok () else .error 5) else if t.w=n then .ok () else .error 10) from by unfold dE;cases bI p act e<;>rfl)
 generalize dE p act e n=q at hv0 ⊢
 generalize bB n e=fb at hF0 hv0
 generalize hra:bI p act e=ra at*
 have hne:=el (p:=p) act e
 obtain ⟨op,lit,head,name,hi,lo,args⟩:=e
 obtain ⟨A,cap,rfl,-,-,-,-,-,-,hs⟩:=RE.inv hr
 have hl:=hs.len
 clear hr hs hP he
 show Calls _ _ #[.agg #[.slice A1 p.headers.length c1,.slice A2 p.metas.length c2,.slice A3 p.states.length c3,.slice A4 p.actions.length c4,.slice A5 p.tables.length c5,.slice A6 p.control.length c6,.slice A7 p.emit.length c7],.int .i64 act,.agg #[.int .u8 op,.int .i64 lit.1,.int .u64 lit.2.1,.int .u64 lit.2.2,.string head,.string name,.int .i64 hi,.int .i64 lo,.slice A args.length cap],.int .i64 (n:Int)] _ _
 obtain ⟨wu,hwu,hsu,we,hwe,hse,hw,cu,ce,-,hl1,hl2⟩:=kM w (aq p A1 A2 A3 A4 A5 A6 A7 c1 c2 c3 c4 c5 c6 c7) 30 (aO op lit head name hi lo A args.length cap) 45
 obtain ⟨u0,u1,u2,u3,u4,u5,u6⟩:=aF cu
 obtain ⟨e0,e1,e2,e3,e4,e5,e6,e7,e8⟩:=bU ce
 clear cu ce
 have hX:=aa (show Calls prog 111 #[.agg (aq p A1 A2 A3 A4 A5 A6 A7 c1 c2 c3 c4 c5 c6 c7),.int .i64 act,.agg (aO op lit head name hi lo A args.length cap)] we _ from hX0.out we hw.out)
 clear hX0
 cases ra with
 |error m=>
  have hmq:(m !=0)=true:=bne_iff_ne.2 (hne m hra)
  have hX1:=aa (show Calls prog _ _ we fun e w'=>e=.returned (.tuple #[.agg #[.int .i64 0,.bool false,.bool false],.int .i64 m])∧Below we.heap.size we w' from hX.out)
  clear hX hne hF0
  go_enter func113,ntmps113
  go_wp2_with ((go_at_call 111;with_reducible refine hX1.out.mono ?_;rintro e w1 ⟨rfl,hb1⟩;have kb1:=ab hb1;have q1:=Bg hl1 hb1.size;have q2:=Bg hl2 hb1.size))
  go_ret
  exact ⟨ag (by rw [hv0.out];rfl),(hw.out.trans (hb1.mono (by omega))).alloc (by have:=hw.out.size;have:=hb1.size;omega) _⟩
 |ok t=>
  obtain ⟨tw,tr,tf⟩:=t
  have hX1:=aa (show Calls prog _ _ we fun e w'=>e=.returned (.tuple #[.agg #[.int .i64 tw,.bool tr,.bool tf],.int .i64 0])∧Below we.heap.size we w' from hX.out)
  clear hX hne
  cases tr with
  |true=>
   clear hF0
   go_enter func113,ntmps113
   go_wp2_with ((go_at_call 111;with_reducible refine hX1.out.mono ?_;rintro e w1 ⟨rfl,hb1⟩;have kb1:=ab hb1;have q1:=Bg hl1 hb1.size;have q2:=Bg hl2 hb1.size))
   go_ret
   exact ⟨ag (by rw [hv0.out];rfl),(hw.out.trans (hb1.mono (by omega))).alloc (by have:=hw.out.size;have:=hb1.size;omega) _⟩
  |false=>
   cases tf with
   |true=>
    have hF:=aa (show ∀ W,Below w.heap.size w W→Calls prog 117 #[.agg (aO op lit head name hi lo A args.length cap),.int .i64 (n:Int)] W fun z w'=>z=.returned (.bool fb)∧Below W.heap.size W w' from hF0.out ⟨tw,false,true⟩ rfl rfl)
    clear hF0
    cases fb with
    |true=>
     go_enter func113,ntmps113
     go_wp2_with (first|(go_at_call 111;with_reducible refine hX1.out.mono ?_;rintro e w1 ⟨rfl,hb1⟩;have kb1:=ab hb1;have q1:=Bg hl1 hb1.size;have q2:=Bg hl2 hb1.size)|(go_at_call 117;with_reducible refine (hF.out _ ((hw.out.trans (hb1.mono (by omega))).alloc (by have:=hw.out.size;have:=hb1.size;omega) _)).mono ?_;rintro e w2 ⟨rfl,hb2⟩;have kb2:=ab hb2;have q3:=Bg (Nat.lt_succ_self w1.heap.size) (Bj (Br (by simp)) hb2.size)))
     go_ret
     exact ⟨ag (by rw [hv0.out];rfl),((hw.out.trans (hb1.mono (by omega))).alloc (by have:=hw.out.size;have:=hb1.size;omega) _).trans (hb2.mono (by simp;have:=hw.out.size;have:=hb1.size;omega))⟩
    |false=>
     go_enter func113,ntmps113
     go_wp2_with (first|(go_at_call 111;with_reducible refine hX1.out.mono ?_;rintro e w1 ⟨rfl,hb1⟩;have kb1:=ab hb1;have q1:=Bg hl1 hb1.size;have q2:=Bg hl2 hb1.size)|(go_at_call 117;with_reducible refine (hF.out _ ((hw.out.trans (hb1.mono (by omega))).alloc (by have:=hw.out.size;have:=hb1.size;omega) _)).mono ?_;rintro e w2 ⟨rfl,hb2⟩;have kb2:=ab hb2;have q3:=Bg (Nat.lt_succ_self w1.heap.size) (Bj (Br (by simp)) hb2.size)))
     go_ret
     exact ⟨ag (by rw [hv0.out];rfl),((hw.out.trans (hb1.mono (by omega))).alloc (by have:=hw.out.size;have:=hb1.size;omega) _).trans (hb2.mono (by simp;have:=hw.out.size;have:=hb1.size;omega))⟩
   |false=>
    clear hF0
    by_cases hn:tw=(n:Int)
    ·have hv1:=aa (show q=.ok () from by rw [hv0.out];simp [hn])
     have hnq:(tw !=(n:Int))=false:=by simp [hn]
     replace hn:=aa hn
     clear hv0
     go_enter func113,ntmps113
     go_wp2_with ((go_at_call 111;with_reducible refine hX1.out.mono ?_;rintro e w1 ⟨rfl,hb1⟩;have kb1:=ab hb1;have q1:=Bg hl1 hb1.size;have q2:=Bg hl2 hb1.size))
     go_ret
     exact ⟨ag (by rw [hv1.out];rfl),(hw.out.trans (hb1.mono (by omega))).alloc (by have:=hw.out.size;have:=hb1.size;omega) _⟩
    ·have hv1:=aa (show q=.error 10 from by rw [hv0.out];simp [hn])
     have hnq:(tw !=(n:Int))=true:=bne_iff_ne.2 hn
     clear hv0
     go_enter func113,ntmps113
     go_wp2_with ((go_at_call 111;with_reducible refine hX1.out.mono ?_;rintro e w1 ⟨rfl,hb1⟩;have kb1:=ab hb1;have q1:=Bg hl1 hb1.size;have q2:=Bg hl2 hb1.size))
     go_ret
     exact ⟨ag (by rw [hv1.out];rfl),(hw.out.trans (hb1.mono (by omega))).alloc (by have:=hw.out.size;have:=hb1.size;omega) _⟩
theorem oS (A1 A2 A3 A4 A5 A6 A7:Option Addr) (p:Pg) (c1 c2 c3 c4 c5 c6 c7:Nat) (B:Nat) (hm:dz p=true) (e:Ex) (he:aT e=true) (cs:List Value) (w:World) (hB:B≤w.heap.size) (hP:bu w B A1 A2 A3 A4 A5 A6 A7 p) (hr:dL w B cs e):
  Calls prog 41 #[.agg (aq p A1 A2 A3 A4 A5 A6 A7 c1 c2 c3 c4 c5 c6 c7),.agg cs.toArray] w fun z w'=>z=.returned (.int .i64 (bS (dc p e)))∧Below w.heap.size w w':=by
 unfold aq
 have hX0:=aa (fun (W:World) (hW:Below w.heap.size w W)=>hO A1 A2 A3 A4 A5 A6 A7 p c1 c2 c3 c4 c5 c6 c7 (-1) B hm e he cs W (Bj hB hW.size) (hP.below (hW.mono hB)) (ai.keep hr fun q hq=>(hW.mono hB).cell hq))
 have hv0:=aa (show dc p e=rh (bI p (-1) e) from rfl)
 generalize dc p e=q at hv0 ⊢
 generalize hra:bI p (-1) e=ra at*
 have hne:=el (p:=p) (-1) e
 obtain ⟨op,lit,head,name,hi,lo,args⟩:=e
 obtain ⟨A,cap,rfl,-,-,-,-,-,-,hs⟩:=RE.inv hr
 have hl:=hs.len
 clear hr hs hP he
 show Calls _ _ #[.agg #[.slice A1 p.headers.length c1,.slice A2 p.metas.length c2,.slice A3 p.states.length c3,.slice A4 p.actions.length c4,.slice A5 p.tables.length c5,.slice A6 p.control.length c6,.slice A7 p.emit.length c7],.agg #[.int .u8 op,.int .i64 lit.1,.int .u64 lit.2.1,.int .u64 lit.2.2,.string head,.string name,.int .i64 hi,.int .i64 lo,.slice A args.length cap]] _ _
 obtain ⟨wu,hwu,hsu,we,hwe,hse,hw,cu,ce,-,hl1,hl2⟩:=kM w (aq p A1 A2 A3 A4 A5 A6 A7 c1 c2 c3 c4 c5 c6 c7) 30 (aO op lit head name hi lo A args.length cap) 45
 obtain ⟨u0,u1,u2,u3,u4,u5,u6⟩:=aF cu
 obtain ⟨e0,e1,e2,e3,e4,e5,e6,e7,e8⟩:=bU ce
 clear cu ce
 have hX:=aa (show Calls prog 111 #[.agg (aq p A1 A2 A3 A4 A5 A6 A7 c1 c2 c3 c4 c5 c6 c7),.int .i64 (-1),.agg (aO op lit head name hi lo A args.length cap)] we _ from hX0.out we hw.out)
 clear hX0
 cases ra with
 |error m=>
  have hmq:(m !=0)=true:=bne_iff_ne.2 (hne m hra)
  have hX1:=aa (show Calls prog _ _ we fun e w'=>e=.returned (.tuple #[.agg #[.int .i64 0,.bool false,.bool false],.int .i64 m])∧Below we.heap.size we w' from hX.out)
  clear hX hne
  go_enter func41,ntmps41
  go_wp2_with ((go_at_call 111;with_reducible refine hX1.out.mono ?_;rintro e w1 ⟨rfl,hb1⟩;have kb1:=ab hb1;have q1:=Bg hl1 hb1.size;have q2:=Bg hl2 hb1.size))
  go_ret
  exact ⟨ag (by rw [hv0.out];rfl),(hw.out.trans (hb1.mono (by omega))).alloc (by have:=hw.out.size;have:=hb1.size;omega) _⟩
 |ok t=>
  obtain ⟨tw,tr,tf⟩:=t
  have hX1:=aa (show Calls prog _ _ we fun e w'=>e=.returned (.tuple #[.agg #[.int .i64 tw,.bool tr,.bool tf],.int .i64 0])∧Below we.heap.size we w' from hX.out)
  clear hX hne
  have hG:=fun (W:World)=>dY ⟨tw,tr,tf⟩ W
  cases tr with
  |true=>
   have hG1:=aa (show ∀ W,Calls prog _ _ W fun e w'=>e=.returned (.int .i64 9)∧Below W.heap.size W w' from hG)
   clear hG
   go_enter func41,ntmps41
   go_wp2_with (first|(go_at_call 111;with_reducible refine hX1.out.mono ?_;rintro e w1 ⟨rfl,hb1⟩;have kb1:=ab hb1;have q1:=Bg hl1 hb1.size;have q2:=Bg hl2 hb1.size)|(go_at_call 112;with_reducible refine (hG1.out _).mono ?_;rintro e w2 ⟨rfl,hb2⟩))
   go_ret
   exact ⟨ag (by rw [hv0.out];rfl),((hw.out.trans (hb1.mono (by omega))).alloc (by have:=hw.out.size;have:=hb1.size;omega) _).trans (hb2.mono (by simp;have:=hw.out.size;have:=hb1.size;omega))⟩
  |false=>
   cases tf with
   |true=>
    have hG1:=aa (show ∀ W,Calls prog _ _ W fun e w'=>e=.returned (.int .i64 10)∧Below W.heap.size W w' from hG)
    clear hG
    go_enter func41,ntmps41
    go_wp2_with (first|(go_at_call 111;with_reducible refine hX1.out.mono ?_;rintro e w1 ⟨rfl,hb1⟩;have kb1:=ab hb1;have q1:=Bg hl1 hb1.size;have q2:=Bg hl2 hb1.size)|(go_at_call 112;with_reducible refine (hG1.out _).mono ?_;rintro e w2 ⟨rfl,hb2⟩))
    go_ret
    exact ⟨ag (by rw [hv0.out];rfl),((hw.out.trans (hb1.mono (by omega))).alloc (by have:=hw.out.size;have:=hb1.size;omega) _).trans (hb2.mono (by simp;have:=hw.out.size;have:=hb1.size;omega))⟩
   |false=>
    have hG1:=aa (show ∀ W,Calls prog _ _ W fun e w'=>e=.returned (.int .i64 0)∧Below W.heap.size W w' from hG)
    clear hG
    go_enter func41,ntmps41
    go_wp2_with (first|(go_at_call 111;with_reducible refine hX1.out.mono ?_;rintro e w1 ⟨rfl,hb1⟩;have kb1:=ab hb1;have q1:=Bg hl1 hb1.size;have q2:=Bg hl2 hb1.size)|(go_at_call 112;with_reducible refine (hG1.out _).mono ?_;rintro e w2 ⟨rfl,hb2⟩))
    go_ret
    exact ⟨ag (by rw [hv0.out];rfl),((hw.out.trans (hb1.mono (by omega))).alloc (by have:=hw.out.size;have:=hb1.size;omega) _).trans (hb2.mono (by simp;have:=hw.out.size;have:=hb1.size;omega))⟩
end Go.Proofs.YtbbdhknagofghaaGreat

import Derived.Test.YtijcdfdbkffiaaaGreatDoorCbp07
set_option linter.all false
set_option maxHeartbeats 4000000
set_option maxRecDepth 100000
open Go.Proofs.Tryz
namespace Go.Proofs.YtijcdfdbkffiaaaGreatDoor
open _root_.Nat renaming lt_of_lt_of_le→Hr, le_refl→Ht, le_trans→Hw, zero_le→Hz, le_of_lt→HL
open _root_.Go.RowKit.Below renaming refl→Hs
open _root_.Go.Sort renaming grow→HG
open _root_.List renaming length_take→HO
open Go.RowKit
structure gB (W:World) (g:Nat) (x y:Int):Prop where
 lt:g<W.heap.size
 c0:W.cell? ⟨g,0,none⟩=some (.int .i64 x)
 c1:W.cell? ⟨g,1,none⟩=some (.int .i64 y)
 f0:W.frozen? ⟨g,0,none⟩=false
 f1:W.frozen? ⟨g,1,none⟩=false
theorem gB.below {W W':World} {g B:Nat} {x y:Int} (h:gB W g x y) (hb:Below B W W') (hg:g<B):gB W' g x y:=
 ⟨Hr h.lt hb.size,(hb.cell (p:=⟨g,0,none⟩) hg).trans h.c0,(hb.cell (p:=⟨g,1,none⟩) hg).trans h.c1,(hb.frozen (p:=⟨g,0,none⟩) hg).trans h.f0,(hb.frozen (p:=⟨g,1,none⟩) hg).trans h.f1⟩
theorem gB.new (W:World) (x y:Int) (t:TypeId):gB (W.alloc (.cells #[.int .i64 x,.int .i64 y] t)) W.heap.size x y:=by
 obtain ⟨wa,hwa,hsa,hba,hca,hfa⟩:=af W #[.int .i64 x,.int .i64 y] t
 rw [hwa]
 exact ⟨by omega,hca 0,hca 1,hfa 0,hfa 1⟩
theorem gB.alloc {W:World} {g:Nat} {x y:Int} (h:gB W g x y) (o:Obj):gB (W.alloc o) g x y:=h.below ((Hs _ _).alloc (Ht _) o) h.lt
theorem gB.far {W:World} {g k i:Nat} {x y:Int} (h:gB W g x y) (v:Value) (hk:k≠g):gB (W.setCell ⟨k,i,none⟩ v) g x y:=by
 have hh:(W.setCell ⟨k,i,none⟩ v).heap[g]? =W.heap[g]? :=Below.heap_setCell _ _ _ _ (fun e=>hk e.symm)
 refine ⟨by rw [aw];exact h.lt,?_,?_,?_,?_⟩
 ·rw [←h.c0];unfold World.cell?;rw [hh]
 ·rw [←h.c1];unfold World.cell?;rw [hh]
 ·rw [←h.f0];unfold World.frozen?;rw [hh]
 ·rw [←h.f1];unfold World.frozen?;rw [hh]
theorem gB.set {W:World} {g:Nat} {x y:Int} (h:gB W g x y) (x' y':Int):gB ((W.setCell ⟨g,0,none⟩ (.int .i64 x')).setCell ⟨g,1,none⟩ (.int .i64 y')) g x' y':=by
 obtain ⟨hl,c0,c1,f0,f1⟩:=h
 refine ⟨by rw [aw,aw];exact hl,?_,?_,?_,?_⟩<;>simp [go_sem,c0,c1,f0,f1]
theorem gB.set1 {W:World} {g:Nat} {x y:Int} (h:gB W g x y) (y':Int):gB (W.setCell ⟨g,1,none⟩ (.int .i64 y')) g x y':=by
 obtain ⟨hl,c0,c1,f0,f1⟩:=h
 refine ⟨by rw [aw];exact hl,?_,?_,?_,?_⟩<;>simp [go_sem,c0,c1,f0,f1]
theorem wQ {B g:Nat} {a w:World} (h:Below B a w) (hg:B≤g) (v0 v1:Value):Below B a ((w.setCell ⟨g,0,none⟩ v0).setCell ⟨g,1,none⟩ v1):=(h.setCell (p:=⟨g,0,none⟩) hg _).setCell (p:=⟨g,1,none⟩) hg _
theorem fA {B g:Nat} {a w:World} (h:Below B a w) (hg:B≤g) (v0 v1 v2:Value):Below B a (((w.setCell ⟨g,0,none⟩ v0).setCell ⟨g,1,none⟩ v1).setCell ⟨g,2,none⟩ v2):=((h.setCell (p:=⟨g,0,none⟩) hg _).setCell (p:=⟨g,1,none⟩) hg _).setCell (p:=⟨g,2,none⟩) hg _
theorem wR (s:ByteArray) (k:Nat) (w:World) (hk:k≤s.size) (hs:s.size<4611686018427387904):
  Calls prog 59 #[.string s,.int .i64 (k:Int)] w fun e w'=>e=.returned (.agg #[.int .i64 (((bN (s.data.toList.take k)).1:Nat):Int),.int .i64 (((bN (s.data.toList.take k)).2:Nat):Int)])∧Below w.heap.size w w':=by
 obtain ⟨wa,hwa,hsa,hba,hca,hfa⟩:=af w #[.int .i64 0,.int .i64 0] 58
 have z0:=hca 0
 have z1:=hca 1
 have f0:=hfa 0
 have f1:=hfa 1
 simp at z0 z1
 have hla:w.heap.size<wa.heap.size:=by omega
 have hsl:s.size≤9223372036854775807:=by omega
 have e1:min (k:Int) (s.size:Int)=k:=by omega
 have e2:max (0:Int) (k:Int)=k:=by omega
 have e3:(0:Int)≤(k:Int):=by omega
 have e4:(k:Int)≤(s.size:Int):=by omega
 obtain ⟨t,ht⟩:∃ t,t=s.extract 0 k:=⟨_,rfl⟩
 have htl:t.data.toList=s.data.toList.take k:=by rw [ht,gu]
 have htz:t.size=k:=by rw [Lib.size_eq,htl,HO,←Lib.size_eq];omega
 have hL:=aa (fun W=>Tryz.strings_LastIndexByte t 10 (by omega) W)
 have hC:=aa (fun W=>Tryz.strings_Count_one t 10 W)
 have hP:=tA t
 have hcl:Lib.countByte t.data.toList 10≤t.data.toList.length:=List.count_le_length
 rw [←Lib.size_eq] at hcl
 rw [←htl]
 obtain ⟨hp,hp1,hp2⟩:=hP
 rw [hp]
 generalize Lib.lastIndexByte t 10=li at hL hp1 hp2
 generalize Lib.countByte t.data.toList 10=ct at hC hcl
 have hre:Ending.returned (.agg #[.int .i64 (((ct+1:Nat)):Int),.int .i64 ((((t.size:Int)-(li+1)+1).toNat:Nat):Int)])=.returned (.agg #[.int .i64 ((ct:Int)+1),.int .i64 ((t.size:Int)-(li+1)+1)]):=by
  rw [Int.toNat_of_nonneg (by omega)];rfl
 simp only
 rw [hre]
 have htb:t.size≤4611686018427387904:=by omega
 have hfin:=aa hba
 replace hsa:=aa hsa
 replace ht:=aa ht
 clear hca hfa hba htl hp hre hk hs
 replace htz:=aa htz
 go_enter func59,ntmps59
 go_wp2_with (first|(go_at_call 113;(try rw [←ht.out]);refine (hL.out _).mono ?_;rintro e w' ⟨rfl,rfl⟩)|(go_at_call 114;(try rw [←ht.out]);refine (hC.out _).mono ?_;rintro e w' ⟨rfl,rfl⟩))
 exact bodyPost_ret (v:=.agg #[.int .i64 ((ct:Int)+1),.int .i64 ((t.size:Int)-(li+1)+1)]) (by simp [results,results59,go_sem,z0,z1]) rfl ⟨rfl,wQ hfin.out (Ht _) _ _⟩
def ma (n:Int) (l:List UInt8):Value:=.agg #[.int .i64 n,.int .i64 (((bN l).1:Nat):Int),.int .i64 (((bN l).2:Nat):Int)]
def uS:Value:=.agg #[.int .i64 0,.int .i64 0,.int .i64 0]
theorem wS (s:ByteArray) (k:Nat) (n:Int) (w:World) (hk:k≤s.size) (hs:s.size<4611686018427387904) (hn:n≠0):
  Calls prog 27 #[.string s,.int .i64 (k:Int),.int .i64 n] w fun e w'=>e=.returned (ma n (s.data.toList.take k))∧Below w.heap.size w w':=by
 obtain ⟨wa,hwa,hsa,hba,hca,hfa⟩:=af w #[.int .i64 0,.int .i64 0,.int .i64 0] 60
 have z0:=hca 0
 have z1:=hca 1
 have z2:=hca 2
 have f0:=hfa 0
 have f1:=hfa 1
 have f2:=hfa 2
 simp at z0 z1 z2
 have hla:w.heap.size<wa.heap.size:=by omega
 have hn0b:(n==0)=false:=beq_eq_false_iff_ne.2 hn
 have hn0:¬n=0:=hn
 have hW:=aa (wR s k wa hk hs)
 unfold ma
 generalize (((bN (s.data.toList.take k)).1:Nat):Int)=pl at hW ⊢
 generalize (((bN (s.data.toList.take k)).2:Nat):Int)=pc at hW ⊢
 have hfin:=aa hba
 replace hsa:=aa hsa
 clear hca hfa hba hk hs hn
 go_enter func27,ntmps27
 go_wp2_with (go_at_call 59;refine hW.out.mono ?_;rintro e w3 ⟨rfl,hb3⟩;have kb:=ae hb3;have q3:=Hr hla hb3.size;have y0:=(kb.1 _ 0 hla).trans z0;have y1:=(kb.1 _ 1 hla).trans z1;have y2:=(kb.1 _ 2 hla).trans z2;have g0:=(kb.2 _ 0 hla).trans f0;have g1:=(kb.2 _ 1 hla).trans f1;have g2:=(kb.2 _ 2 hla).trans f2)
 exact bodyPost_ret (v:=.agg #[.int .i64 n,.int .i64 pl,.int .i64 pc]) (by simp [results,results27,go_sem,y0,y1,y2,q3]) rfl ⟨rfl,fA (hfin.out.trans (hb3.mono (HL hla))) (Ht _) _ _ _⟩
theorem jU (A:Option Addr) (cap:Nat) (xs:List ByteArray) (n:ByteArray) (w:World) (h:Sl 1 cJ w w.heap.size A xs):
  Calls prog 67 #[.slice A xs.length cap,.string n] w fun e w'=>e=.returned (.int .i64 (bo xs n))∧w=w':=by
 have hl:=h.len
 go_enter func67,ntmps67
 go_wp2
 go_loop [8] (fun i=>∃ k:Nat,k≤xs.length∧i=.int .i64 k∧n∉xs.take k) (fun i=>xs.length-(intOf i).toNat)
 case atStart=>exact ⟨0,Hz _,rfl,by simp⟩
 case round=>
  obtain ⟨k,hk,rfl,hc⟩:=hrel
  by_cases hlt:k<xs.length
  ·obtain ⟨b,o,rfl,hb,hcell,-⟩:=h.str hlt
   clear h
   by_cases he:xs[k]=n
   ·have ht:=sG he.symm
    have hv:=aa (kN hlt hc he)
    clear he
    go_wp2
    go_ret
    exact ⟨av hv.out.symm,rfl⟩
   ·have ht:=sH (fun e=>he (Eq.symm e))
    have hv:=aa (dK hlt hc he)
    clear he
    go_wp2
    go_round
    case rel=>exact ⟨k+1,by omega,by go_num,hv.out⟩
    case measure=>simp [intOf];omega
  ·have hv:=aa (pZ (eB hk hlt hc))
   go_wp2
   go_ret
   exact ⟨av hv.out.symm,rfl⟩
theorem yy.more {w:World} {B B':Nat} {A1 A2 A3 A4 A5 A6 A7:Option Addr} {p:Pg} (h:yy w B A1 A2 A3 A4 A5 A6 A7 p) (hB:B≤B'):yy w B' A1 A2 A3 A4 A5 A6 A7 p:=
 ⟨h.1.more yI hB,h.2.more jq hB,h.3.more yL hB,h.4.more yM hB,h.5.more yO hB,h.6.more oQ hB,h.7.more aG hB⟩
theorem yy.grown {wb:World} {B:Nat} {A1 A2 A3 A4 A5 A6 A7:Option Addr} {p:Pg} (h:yy wb B A1 A2 A3 A4 A5 A6 A7 p) (hB:B≤wb.heap.size) (d:Nat) (os:Array Obj):
  B≤(HG (redrawn wb d) os).heap.size∧yy (HG (redrawn wb d) os) B A1 A2 A3 A4 A5 A6 A7 p:=
 ⟨Hw hB (EQ wb d os),h.below ((below_regrown wb d os).mono hB)⟩
end Go.Proofs.YtijcdfdbkffiaaaGreatDoor

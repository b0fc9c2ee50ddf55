import Derived.Test.YtiebolhmdhdagaaGreatDoorEwp15
set_option linter.all false
set_option maxHeartbeats 4000000
set_option maxRecDepth 100000
open Go.Proofs.Tryz
namespace Go.Proofs.YtiebolhmdhdagaaGreatDoor
open _root_.Go.RowKit.Below renaming refl→Hf
open _root_.Nat renaming le_refl→Hh, le_trans→Hj, zero_add→HS, mul_le_mul_right→Ib
open _root_.Bool renaming and_eq_true→Hl
open _root_.List renaming length_cons→Hp, length_append→Hu, mem_cons_self→HE, mem_cons_of_mem→HI, map_cons→HL, getElem?_eq_some_iff→HV, length_nil→HY, mem_append→H0, eq_nil_of_length_eq_zero→H8
open _root_.Option renaming bind_some→Hq
open Go.RowKit
section
attribute [local go_sem] run_panic_iface
theorem fY {t:Tk} {y:Int} (h:cT t y=true):t.n<2 ^ y.toNat:=by unfold cT at h;rw [Hl] at h;exact of_decide_eq_true h.2
def fi (W:World) (r:Nat) (c0:Int) (s:ByteArray) (c2 c3 c4 c5:Int):Prop:=W.heap[r]? =some (.cells #[.int .u8 c0,.string s,.int .i64 c2,.int .u64 c3,.int .u64 c4,.int .i64 c5] 141 (0,0))
theorem fi.lt {W:World} {r:Nat} {c0 c2 c3 c4 c5:Int} {s:ByteArray} (h:fi W r c0 s c2 c3 c4 c5):r<W.heap.size:=bL h
theorem fi.grg {g:Nat} {W W':World} {r:Nat} {c0 c2 c3 c4 c5:Int} {s:ByteArray} (h:fi W r c0 s c2 c3 c4 c5) (hG:ay g W W') (hn:r≠g):fi W' r c0 s c2 c3 c4 c5:=(hG.blk h.lt hn).trans h
theorem fl.grg {g:Nat} {W W':World} {r:Nat} {a b c d:Int} (h:fl W r a b c d) (hG:ay g W W') (hn:r≠g):fl W' r a b c d:=(hG.blk h.lt hn).trans h
theorem fi.cells {W:World} {r:Nat} {c0 c2 c3 c4 c5:Int} {s:ByteArray} (h:fi W r c0 s c2 c3 c4 c5):W.cell? ⟨r,0,none⟩=some (.int .u8 c0)∧W.cell? ⟨r,1,none⟩=some (.string s)∧W.cell? ⟨r,2,none⟩=some (.int .i64 c2)∧W.cell? ⟨r,3,none⟩=some (.int .u64 c3)∧W.cell? ⟨r,4,none⟩=some (.int .u64 c4)∧W.cell? ⟨r,5,none⟩=some (.int .i64 c5):=
 ⟨bn h 0,bn h 1,bn h 2,bn h 3,bn h 4,bn h 5⟩
structure uI (w W:World) (g:Nat) (l:List Tk) (V:Array Value) (c0:Int) (s:ByteArray) (c2 c3 c4 c5:Int):Prop where
 grg:ay g w W
 rd:bb W g l V
 bx:fl W w.heap.size 0 0 0 0
 fb:fi W (w.heap.size+1) c0 s c2 c3 c4 c5
 lt:g<w.heap.size
theorem uI.step {w W W':World} {g:Nat} {l l':List Tk} {V:Array Value} {c0 c2 c3 c4 c5:Int} {s:ByteArray} (h:uI w W g l V c0 s c2 c3 c4 c5) (hG:ay g W W') (hR:bb W' g l' V):uI w W' g l' V c0 s c2 c3 c4 c5:=
 ⟨h.grg.trans hG,hR,h.bx.grg hG (by have:=h.lt;omega),h.fb.grg hG (by have:=h.lt;omega),h.lt⟩
theorem uI.below {w W W':World} {g:Nat} {l:List Tk} {V:Array Value} {c0 c2 c3 c4 c5:Int} {s:ByteArray} (h:uI w W g l V c0 s c2 c3 c4 c5) (hb:Below W.heap.size W W'):uI w W' g l V c0 s c2 c3 c4 c5:=
 h.step (ay.of hb) (h.rd.below hb h.rd.lt)
theorem uI.sz {w W:World} {g:Nat} {l:List Tk} {V:Array Value} {c0 c2 c3 c4 c5:Int} {s:ByteArray} (h:uI w W g l V c0 s c2 c3 c4 c5):w.heap.size+2≤W.heap.size:=h.fb.lt
theorem uI.done {w W:World} {g:Nat} {l:List Tk} {V:Array Value} {c0 c2 c3 c4 c5:Int} {s:ByteArray} (h:uI w W g l V c0 s c2 c3 c4 c5) (a b c d:Value):
  ay g w ((((W.setCell ⟨w.heap.size,0,none⟩ a).setCell ⟨w.heap.size,1,none⟩ b).setCell ⟨w.heap.size,2,none⟩ c).setCell ⟨w.heap.size,3,none⟩ d)∧bb ((((W.setCell ⟨w.heap.size,0,none⟩ a).setCell ⟨w.heap.size,1,none⟩ b).setCell ⟨w.heap.size,2,none⟩ c).setCell ⟨w.heap.size,3,none⟩ d) g l V:=
 ⟨(((h.grg.setNew (Hh _) _).setNew (Hh _) _).setNew (Hh _) _).setNew (Hh _) _,(((h.rd.setNew h.lt _).setNew h.lt _).setNew h.lt _).setNew h.lt _⟩
theorem bU (W:World) (c0 c2 c3 c4 c5:Int) (s:ByteArray):fi (W.alloc (.cells #[.int .u8 c0,.string s,.int .i64 c2,.int .u64 c3,.int .u64 c4,.int .i64 c5] 141)) W.heap.size c0 s c2 c3 c4 c5:=heap_alloc_new W _
theorem yd {w:World} {g:Nat} {l:List Tk} {V:Array Value} (kd y:Int) (h:bb w g l V) (h1:bA [95] l=true) (hk:kd≠1):
  Calls prog 148 #[.pointer (some ⟨g,0,none⟩),.int .u8 kd,.int .i64 y] w fun e w'=>e=.returned (.tuple #[zq (Eo 0 0),.int .i64 0])∧ay g w w'∧bb w' g (ae l) V:=by
 have hI1:=aa (fun (W:World) (hW:bb W g (l) V)=>show Calls prog 149 #[.pointer (some ⟨g,0,none⟩),.string ⟨#[95]⟩] W fun e w'=>e=.returned (.bool true)∧Below W.heap.size W w' from by have hq0:=rq ⟨#[95]⟩ hW;rw [show bA (⟨#[95]⟩:ByteArray).data.toList (l)=true from h1] at hq0;exact hq0)
 have hN:=aa (fun (W:World) (hW:bb W g l V)=>jF hW)
 have hA:=aa (fun (W:World)=>aY (af l) 9 W)
 have ek:(kd !=1)=true:=by rw [bne_iff_ne];exact hk
 have hG1:=h.lt
 obtain ⟨wa,hwa,hsa,hba,hca,hfa⟩:=ak w #[.int .u64 0,.int .u64 0,.int .u64 0,.int .u64 0] 63
 have hpb:fl wa w.heap.size 0 0 0 0:=by rw [←hwa];exact heap_alloc_new w _
 have hRa:=h.below hba h.lt
 obtain ⟨b,o,cap,lt,bg,pos,le,ml,c0,f0,k0,k1,k2,k3,k4,k5⟩:=hRa.open_
 have lz:(0:Int)<(l.length:Int):=by omega
 have hbl:b<wa.heap.size:=by omega
 generalize af l=t1 at k0 k1 k2 k3 k4 k5 hN hA
 obtain ⟨kd1,s1,wd1,m1,pl1⟩:=t1
 unfold g8 at hN hA
 simp only at k0 k1 k2 k3 k4 k5 hN hA
 generalize (⟨s1.toArray⟩:ByteArray)=S1 at k1 hN hA
 generalize hhi1:((m1 / 18446744073709551616:Nat):Int)=hi1 at k3 hN hA
 generalize hlo1:((m1 % 18446744073709551616:Nat):Int)=lo1 at k4 hN hA
 clear hhi1 hlo1
 obtain ⟨wb,hwb,hbb,hsb,hlb,x0,x1,x2,x3,x4,x5⟩:=bD wa kd1 wd1 hi1 lo1 pl1 S1
 have hS0:=aa (show uI w wb g l V kd1 S1 wd1 hi1 lo1 pl1 from ⟨(ay.of hba).trans (ay.of hbb.out),hRa.below hbb.out hRa.lt,hpb.grg (g:=g) (ay.of hbb.out) (by omega),by rw [show w.heap.size+1=wa.heap.size from hsa.symm,←hwb];exact bU wa _ _ _ _ _ _,h.lt⟩)
 have hsa':wa.heap.size=w.heap.size+1:=hsa
 have hgb:=aa hRa
 clear hpb hca hfa hba hbb hsb f0 h hRa
 go_enter func148,ntmps148
 go_upto_region 3 with (go_at_call 149;refine (hI1.out _ hS0.out.rd).mono ?_;rintro e w1 ⟨rfl,hb1⟩)
 have hS1:=aa (hS0.out.below hb1)
 clear hb1 hS0 x0 x1 x2 x3 x4 x5 c0 k0 k1 k2 k3 k4 k5
 go_upto_region 4 with (go_at_call 145;refine (hN.out _ hS1.out.rd).mono ?_;rintro e w2 ⟨rfl,hG2,hR2⟩)
 have hS2:=aa (hS1.out.step hG2 hR2)
 clear hG2 hR2 hS1
 obtain ⟨x0,x1,x2,x3,x4,x5⟩:=hS2.out.fb.cells
 have hl2:=hS2.out.fb.lt
 go_upto_region 5 with (go_at_call 91;refine (hA.out _).mono ?_;rintro e w3 ⟨rfl,hb3⟩)
 have hS3:=aa (hS2.out.below hb3)
 clear hb3 hS2 x0 x1 x2 x3 x4 x5
 obtain ⟨z0,z1,z2,z3,g0,g1,g2,g3⟩:=hS3.out.bx.cells
 have hl3:=hS3.out.bx.lt
 go_wp2
 obtain ⟨r1,r2⟩:=hS3.out.done (.int .u64 0) (.int .u64 0) (.int .u64 0) (.int .u64 0)
 refine bodyPost_ret (v:=.tuple #[.agg #[.int .u64 0,.int .u64 0,.int .u64 0,.int .u64 0],.int .i64 0]) (by simp [results,results148,go_sem,z0,z1,z2,z3]) rfl ⟨rfl,r1,r2⟩
theorem sL {w:World} {g:Nat} {l:List Tk} {V:Array Value} (kd y:Int) (h:bb w g l V) (hw:aj y=true) (h1:bA [95] l=false) (h2:(af l).kind=2) (h3:bA [47] (ae l)=false) (h4:bA cH (ae l)=false) (hk:kd≠2) (hg1:cT (af l) y=true):
  Calls prog 148 #[.pointer (some ⟨g,0,none⟩),.int .u8 kd,.int .i64 y] w fun e w'=>e=.returned (.tuple #[zq (py (af l).n (dK y.toNat y.toNat)),.int .i64 0])∧ay g w w'∧bb w' g (ae l) V:=by
 have hI1:=aa (fun (W:World) (hW:bb W g (l) V)=>show Calls prog 149 #[.pointer (some ⟨g,0,none⟩),.string ⟨#[95]⟩] W fun e w'=>e=.returned (.bool false)∧Below W.heap.size W w' from by have hq0:=rq ⟨#[95]⟩ hW;rw [show bA (⟨#[95]⟩:ByteArray).data.toList (l)=false from h1] at hq0;exact hq0)
 have hI2:=aa (fun (W:World) (hW:bb W g (ae l) V)=>show Calls prog 149 #[.pointer (some ⟨g,0,none⟩),.string ⟨#[47]⟩] W fun e w'=>e=.returned (.bool false)∧Below W.heap.size W w' from by have hq0:=rq ⟨#[47]⟩ hW;rw [show bA (⟨#[47]⟩:ByteArray).data.toList (ae l)=false from h3] at hq0;exact hq0)
 have hI3:=aa (fun (W:World) (hW:bb W g (ae l) V)=>show Calls prog 149 #[.pointer (some ⟨g,0,none⟩),.string ⟨#[38,38,38]⟩] W fun e w'=>e=.returned (.bool false)∧Below W.heap.size W w' from by have hq0:=rq ⟨#[38,38,38]⟩ hW;rw [show bA (⟨#[38,38,38]⟩:ByteArray).data.toList (ae l)=false from h4] at hq0;exact hq0)
 have hN:=aa (fun (W:World) (hW:bb W g l V)=>fB hW h2)
 have hA:=aa (fun (W:World)=>aY (af l) 9 W)
 have hn128:(af l).n<2 ^ y.toNat:=fY hg1
 have hp128:=pK hw
 have hGo:=aa (fun (W:World)=>sK (af l) y W hg1 (by omega))
 have ek:(kd !=2)=true:=by rw [bne_iff_ne];exact hk
 have hEx:=aa (fun (W:World)=>Bf (af l).n y W hw hn128)
 unfold nA at hEx
 generalize py (af l).n (dK y.toNat y.toNat)=X at hEx ⊢
 clear hn128 hp128 hg1 h2
 have hG1:=h.lt
 obtain ⟨wa,hwa,hsa,hba,hca,hfa⟩:=ak w #[.int .u64 0,.int .u64 0,.int .u64 0,.int .u64 0] 63
 have hpb:fl wa w.heap.size 0 0 0 0:=by rw [←hwa];exact heap_alloc_new w _
 have hRa:=h.below hba h.lt
 obtain ⟨b,o,cap,lt,bg,pos,le,ml,c0,f0,k0,k1,k2,k3,k4,k5⟩:=hRa.open_
 have lz:(0:Int)<(l.length:Int):=by omega
 have hbl:b<wa.heap.size:=by omega
 generalize af l=t1 at k0 k1 k2 k3 k4 k5 hN hA hGo hEx
 obtain ⟨kd1,s1,wd1,m1,pl1⟩:=t1
 unfold g8 at hN hA hGo
 simp only at k0 k1 k2 k3 k4 k5 hN hA hGo hEx
 generalize (⟨s1.toArray⟩:ByteArray)=S1 at k1 hN hA hGo
 generalize hhi1:((m1 / 18446744073709551616:Nat):Int)=hi1 at k3 hN hA hGo hEx
 generalize hlo1:((m1 % 18446744073709551616:Nat):Int)=lo1 at k4 hN hA hGo hEx
 clear hhi1 hlo1
 obtain ⟨wb,hwb,hbb,hsb,hlb,x0,x1,x2,x3,x4,x5⟩:=bD wa kd1 wd1 hi1 lo1 pl1 S1
 have hS0:=aa (show uI w wb g l V kd1 S1 wd1 hi1 lo1 pl1 from ⟨(ay.of hba).trans (ay.of hbb.out),hRa.below hbb.out hRa.lt,hpb.grg (g:=g) (ay.of hbb.out) (by omega),by rw [show w.heap.size+1=wa.heap.size from hsa.symm,←hwb];exact bU wa _ _ _ _ _ _,h.lt⟩)
 have hsa':wa.heap.size=w.heap.size+1:=hsa
 have hgb:=aa hRa
 clear hpb hca hfa hba hbb hsb f0 h hRa
 go_enter func148,ntmps148
 go_upto_region 6 with (go_at_call 149;refine (hI1.out _ hS0.out.rd).mono ?_;rintro e w1 ⟨rfl,hb1⟩)
 have hS1:=aa (hS0.out.below hb1)
 clear hb1 hS0 x0 x1 x2 x3 x4 x5 c0 k0 k1 k2 k3 k4 k5
 go_upto_region 7 with (go_at_call 151;refine (hN.out _ hS1.out.rd).mono ?_;rintro e w2 ⟨rfl,hG2,hR2⟩;obtain ⟨w3,hw3,hb3,hs3,hl3,u0,u1,u2,u3,u4,u5⟩:=bD w2 kd1 wd1 hi1 lo1 pl1 S1)
 have hS2:=hS1.out.step hG2 hR2
 have hS3:=aa (hS2.below hb3.out)
 have hT3:=aa (show fi w3 w2.heap.size kd1 S1 wd1 hi1 lo1 pl1 from by rw [←hw3];exact bU w2 _ _ _ _ _ _)
 have hr:g<w2.heap.size∧w.heap.size+2≤w2.heap.size:=⟨hS2.rd.lt,hS2.sz⟩
 generalize w2.heap.size=r at*
 clear hG2 hR2 hS1 hS2 hw3 hb3 hs3 u0 u1 u2 u3 u4 u5
 go_upto_region 15 with (go_at_call 149;refine (hI2.out _ hS3.out.rd).mono ?_;rintro e w4 ⟨rfl,hb4⟩)
 have hS4:=aa (hS3.out.below hb4)
 have hT4:=aa (hT3.out.grg (g:=g) (ay.of hb4) (by omega))
 clear hb4 hS3 hT3
 go_upto_region 23 with (go_at_call 149;refine (hI3.out _ hS4.out.rd).mono ?_;rintro e w5 ⟨rfl,hb5⟩)
 have hS5:=aa (hS4.out.below hb5)
 have hT5:=aa (hT4.out.grg (g:=g) (ay.of hb5) (by omega))
 clear hb5 hS4 hT4
 obtain ⟨x0,x1,x2,x3,x4,x5⟩:=hS5.out.fb.cells
 have hlf:=hS5.out.fb.lt
 go_upto_region 24 with (go_at_call 91;refine (hA.out _).mono ?_;rintro e w6 ⟨rfl,hb6⟩)
 have hS6:=aa (hS5.out.below hb6)
 have hT6:=aa (hT5.out.grg (g:=g) (ay.of hb6) (by omega))
 clear hb6 hS5 hlf x0 x1 x2 x3 x4 x5 hT5
 obtain ⟨x0,x1,x2,x3,x4,x5⟩:=hT6.out.cells
 have hlf:=hT6.out.lt
 go_upto_region 25 with (go_at_call 180;refine (hGo.out _).mono ?_;rintro e w7 ⟨rfl,hb7⟩)
 have hS7:=aa (hS6.out.below hb7)
 have hT7:=aa (hT6.out.grg (g:=g) (ay.of hb7) (by omega))
 clear hb7 hS6 hlf x0 x1 x2 x3 x4 x5 hT6
 obtain ⟨-,-,-,p03,p04,-⟩:=hT7.out.cells
 have hlp0:=hT7.out.lt
 go_upto_region 26 with (go_at_call 183;refine (hEx.out _).mono ?_;rintro e w8 ⟨rfl,hb8⟩;obtain ⟨w8',hw8',hsz8,hbx8,hcx8,-⟩:=ak w8 #[.int .u64 X.vh,.int .u64 X.vl,.int .u64 X.mh,.int .u64 X.ml] 63)
 obtain ⟨q0,q1,q2,q3⟩:=wZ hcx8
 have hS8:=aa ((hS7.out.below hb8).below hbx8)
 have hlq:w8.heap.size<w8'.heap.size:=by omega
 obtain ⟨z0,z1,z2,z3,g0,g1,g2,g3⟩:=hS8.out.bx.cells
 have hl3:=hS8.out.bx.lt
 have hwn:w.heap.size≠w8.heap.size:=by have:=hS7.out.sz;have:=hb8.size;omega
 have hnw:w8.heap.size≠w.heap.size:=Ne.symm hwn
 replace hsz8:=aa hsz8
 clear hcx8 hbx8 hb8 hS7 p03 p04 hlp0
 go_wp2
 obtain ⟨r1,r2⟩:=hS8.out.done (.int .u64 X.vh) (.int .u64 X.vl) (.int .u64 X.mh) (.int .u64 X.ml)
 refine bodyPost_ret (v:=.tuple #[.agg #[.int .u64 X.vh,.int .u64 X.vl,.int .u64 X.mh,.int .u64 X.ml],.int .i64 0]) (by simp [results,results148,go_sem,z0,z1,z2,z3]) rfl ⟨rfl,r1,r2⟩
theorem uJ {w:World} {g:Nat} {l:List Tk} {V:Array Value} (kd y:Int) (h:bb w g l V) (h1:bA [95] l=false) (h2:(af l).kind=2) (h3:bA [47] (ae l)=false) (h4:bA cH (ae l)=false) (hk:kd=2):
  Calls prog 148 #[.pointer (some ⟨g,0,none⟩),.int .u8 kd,.int .i64 y] w fun e w'=>e=Dc (9,(af l).pl)∧ay g w w':=by
 have hI1:=aa (fun (W:World) (hW:bb W g (l) V)=>show Calls prog 149 #[.pointer (some ⟨g,0,none⟩),.string ⟨#[95]⟩] W fun e w'=>e=.returned (.bool false)∧Below W.heap.size W w' from by have hq0:=rq ⟨#[95]⟩ hW;rw [show bA (⟨#[95]⟩:ByteArray).data.toList (l)=false from h1] at hq0;exact hq0)
 have hI2:=aa (fun (W:World) (hW:bb W g (ae l) V)=>show Calls prog 149 #[.pointer (some ⟨g,0,none⟩),.string ⟨#[47]⟩] W fun e w'=>e=.returned (.bool false)∧Below W.heap.size W w' from by have hq0:=rq ⟨#[47]⟩ hW;rw [show bA (⟨#[47]⟩:ByteArray).data.toList (ae l)=false from h3] at hq0;exact hq0)
 have hI3:=aa (fun (W:World) (hW:bb W g (ae l) V)=>show Calls prog 149 #[.pointer (some ⟨g,0,none⟩),.string ⟨#[38,38,38]⟩] W fun e w'=>e=.returned (.bool false)∧Below W.heap.size W w' from by have hq0:=rq ⟨#[38,38,38]⟩ hW;rw [show bA (⟨#[38,38,38]⟩:ByteArray).data.toList (ae l)=false from h4] at hq0;exact hq0)
 have hN:=aa (fun (W:World) (hW:bb W g l V)=>fB hW h2)
 have hA:=aa (fun (W:World)=>Dd (af l) 9 W)
 have ek:(kd !=2)=false:=by rw [hk];rfl
 clear h2 hk
 have hG1:=h.lt
 obtain ⟨wa,hwa,hsa,hba,hca,hfa⟩:=ak w #[.int .u64 0,.int .u64 0,.int .u64 0,.int .u64 0] 63
 have hpb:fl wa w.heap.size 0 0 0 0:=by rw [←hwa];exact heap_alloc_new w _
 have hRa:=h.below hba h.lt
 obtain ⟨b,o,cap,lt,bg,pos,le,ml,c0,f0,k0,k1,k2,k3,k4,k5⟩:=hRa.open_
 have lz:(0:Int)<(l.length:Int):=by omega
 have hbl:b<wa.heap.size:=by omega
 generalize af l=t1 at k0 k1 k2 k3 k4 k5 hN hA ⊢
 obtain ⟨kd1,s1,wd1,m1,pl1⟩:=t1
 unfold g8 at hN hA
 simp only at k0 k1 k2 k3 k4 k5 hN hA ⊢
 generalize (⟨s1.toArray⟩:ByteArray)=S1 at k1 hN hA
 generalize hhi1:((m1 / 18446744073709551616:Nat):Int)=hi1 at k3 hN hA
 generalize hlo1:((m1 % 18446744073709551616:Nat):Int)=lo1 at k4 hN hA
 clear hhi1 hlo1
 obtain ⟨wb,hwb,hbb,hsb,hlb,x0,x1,x2,x3,x4,x5⟩:=bD wa kd1 wd1 hi1 lo1 pl1 S1
 have hS0:=aa (show uI w wb g l V kd1 S1 wd1 hi1 lo1 pl1 from ⟨(ay.of hba).trans (ay.of hbb.out),hRa.below hbb.out hRa.lt,hpb.grg (g:=g) (ay.of hbb.out) (by omega),by rw [show w.heap.size+1=wa.heap.size from hsa.symm,←hwb];exact bU wa _ _ _ _ _ _,h.lt⟩)
 have hsa':wa.heap.size=w.heap.size+1:=hsa
 have hgb:=aa hRa
 clear hpb hca hfa hba hbb hsb f0 h hRa
 go_enter func148,ntmps148
 go_upto_region 6 with (go_at_call 149;refine (hI1.out _ hS0.out.rd).mono ?_;rintro e w1 ⟨rfl,hb1⟩)
 have hS1:=aa (hS0.out.below hb1)
 clear hb1 hS0 x0 x1 x2 x3 x4 x5 c0 k0 k1 k2 k3 k4 k5
 go_upto_region 7 with (go_at_call 151;refine (hN.out _ hS1.out.rd).mono ?_;rintro e w2 ⟨rfl,hG2,hR2⟩;obtain ⟨w3,hw3,hb3,hs3,hl3,u0,u1,u2,u3,u4,u5⟩:=bD w2 kd1 wd1 hi1 lo1 pl1 S1)
 have hS2:=hS1.out.step hG2 hR2
 have hS3:=aa (hS2.below hb3.out)
 have hT3:=aa (show fi w3 w2.heap.size kd1 S1 wd1 hi1 lo1 pl1 from by rw [←hw3];exact bU w2 _ _ _ _ _ _)
 have hr:g<w2.heap.size∧w.heap.size+2≤w2.heap.size:=⟨hS2.rd.lt,hS2.sz⟩
 generalize w2.heap.size=r at*
 clear hG2 hR2 hS1 hS2 hw3 hb3 hs3 u0 u1 u2 u3 u4 u5
 go_upto_region 15 with (go_at_call 149;refine (hI2.out _ hS3.out.rd).mono ?_;rintro e w4 ⟨rfl,hb4⟩)
 have hS4:=aa (hS3.out.below hb4)
 have hT4:=aa (hT3.out.grg (g:=g) (ay.of hb4) (by omega))
 clear hb4 hS3 hT3
 go_upto_region 23 with (go_at_call 149;refine (hI3.out _ hS4.out.rd).mono ?_;rintro e w5 ⟨rfl,hb5⟩)
 have hS5:=aa (hS4.out.below hb5)
 have hT5:=aa (hT4.out.grg (g:=g) (ay.of hb5) (by omega))
 clear hb5 hS4 hT4
 obtain ⟨x0,x1,x2,x3,x4,x5⟩:=hS5.out.fb.cells
 have hlf:=hS5.out.fb.lt
 go_wp2_with (go_at_call 91;refine (hA.out _).mono ?_;rintro e w6 ⟨rfl,hb6⟩)
 exact ⟨rfl,rfl,(hS5.out.below hb6).grg⟩
end
section
attribute [local go_sem] run_panic_iface
theorem qT {w:World} {g:Nat} {l:List Tk} {V:Array Value} (kd y:Int) (h:bb w g l V) (hw:aj y=true) (h1:bA [95] l=false) (h2:(af l).kind=2) (h3:bA [47] (ae l)=true) (h4:(af (ae (ae l))).kind=2) (hk:kd=2) (hg1:cT (af l) y=true) (hg2:lL (af (ae (ae l))) y=true):
  Calls prog 148 #[.pointer (some ⟨g,0,none⟩),.int .u8 kd,.int .i64 y] w fun e w'=>e=.returned (.tuple #[zq (py (af l).n (dK (af (ae (ae l))).n y.toNat)),.int .i64 ((af (ae (ae l))).n:Int)])∧ay g w w'∧bb w' g (ae (ae (ae l))) V:=by
 have hI1:=aa (fun (W:World) (hW:bb W g (l) V)=>show Calls prog 149 #[.pointer (some ⟨g,0,none⟩),.string ⟨#[95]⟩] W fun e w'=>e=.returned (.bool false)∧Below W.heap.size W w' from by have hq0:=rq ⟨#[95]⟩ hW;rw [show bA (⟨#[95]⟩:ByteArray).data.toList (l)=false from h1] at hq0;exact hq0)
 have hI2:=aa (fun (W:World) (hW:bb W g (ae l) V)=>show Calls prog 149 #[.pointer (some ⟨g,0,none⟩),.string ⟨#[47]⟩] W fun e w'=>e=.returned (.bool true)∧Below W.heap.size W w' from by have hq0:=rq ⟨#[47]⟩ hW;rw [show bA (⟨#[47]⟩:ByteArray).data.toList (ae l)=true from h3] at hq0;exact hq0)
 have hN:=aa (fun (W:World) (hW:bb W g l V)=>fB hW h2)
 have hN2:=aa (fun (W:World) (hW:bb W g (ae (ae l)) V)=>fB hW h4)
 have hNx:=aa (fun (W:World) (hW:bb W g (ae l) V)=>jF hW)
 have hA:=aa (fun (W:World)=>aY (af l) 9 W)
 have hn128:(af l).n<2 ^ y.toNat:=fY hg1
 have hp128:=pK hw
 have hGo:=aa (fun (W:World)=>sK (af l) y W hg1 (by omega))
 have hw':=(aA y).1 hw
 have hz2:(((af (ae (ae l))).n:Nat):Int)≤y:=by unfold lL at hg2;rw [Hl,decide_eq_true_eq,decide_eq_true_eq] at hg2;exact hg2.2
 have hPl:=aa (fun (W:World)=>Bm (af (ae (ae l))) y W hg2 (by omega) (by omega))
 have ek:(kd==2)=true:=by rw [hk];rfl
 have hPf:=aa (fun (W:World)=>xW (af l).n (af (ae (ae l))).n y W hw hn128 hz2)
 unfold nA at hPf
 generalize py (af l).n (dK (af (ae (ae l))).n y.toNat)=X at hPf ⊢
 clear hn128 hp128 hg1 hg2 h2 h4 hk hw' hz2
 generalize hhx:af (ae l)=tx at hNx
 clear hhx
 obtain ⟨kdx,sx,wdx,mx,plx⟩:=tx
 unfold g8 at hNx
 simp only at hNx
 generalize (⟨sx.toArray⟩:ByteArray)=SX at hNx
 generalize ((mx / 18446744073709551616:Nat):Int)=hix at hNx
 generalize ((mx % 18446744073709551616:Nat):Int)=lox at hNx
 generalize af (ae (ae l))=t2 at hN2 hPl hPf ⊢
 obtain ⟨kd2,s2,wd2,m2,pl2⟩:=t2
 unfold g8 at hN2 hPl
 simp only at hN2 hPl hPf ⊢
 generalize (⟨s2.toArray⟩:ByteArray)=S2 at hN2 hPl
 generalize hhi2:((m2 / 18446744073709551616:Nat):Int)=hi2 at hN2 hPl
 generalize hlo2:((m2 % 18446744073709551616:Nat):Int)=lo2 at hN2 hPl
 clear hhi2 hlo2
 generalize ((m2:Nat):Int)=L at hPl hPf ⊢
 have hG1:=h.lt
 obtain ⟨wa,hwa,hsa,hba,hca,hfa⟩:=ak w #[.int .u64 0,.int .u64 0,.int .u64 0,.int .u64 0] 63
 have hpb:fl wa w.heap.size 0 0 0 0:=by rw [←hwa];exact heap_alloc_new w _
 have hRa:=h.below hba h.lt
 obtain ⟨b,o,cap,lt,bg,pos,le,ml,c0,f0,k0,k1,k2,k3,k4,k5⟩:=hRa.open_
 have lz:(0:Int)<(l.length:Int):=by omega
 have hbl:b<wa.heap.size:=by omega
 generalize af l=t1 at k0 k1 k2 k3 k4 k5 hN hA hGo hPf
 obtain ⟨kd1,s1,wd1,m1,pl1⟩:=t1
 unfold g8 at hN hA hGo
 simp only at k0 k1 k2 k3 k4 k5 hN hA hGo hPf
 generalize (⟨s1.toArray⟩:ByteArray)=S1 at k1 hN hA hGo
 generalize hhi1:((m1 / 18446744073709551616:Nat):Int)=hi1 at k3 hN hA hGo hPf
 generalize hlo1:((m1 % 18446744073709551616:Nat):Int)=lo1 at k4 hN hA hGo hPf
 clear hhi1 hlo1
 obtain ⟨wb,hwb,hbb,hsb,hlb,x0,x1,x2,x3,x4,x5⟩:=bD wa kd1 wd1 hi1 lo1 pl1 S1
 have hS0:=aa (show uI w wb g l V kd1 S1 wd1 hi1 lo1 pl1 from ⟨(ay.of hba).trans (ay.of hbb.out),hRa.below hbb.out hRa.lt,hpb.grg (g:=g) (ay.of hbb.out) (by omega),by rw [show w.heap.size+1=wa.heap.size from hsa.symm,←hwb];exact bU wa _ _ _ _ _ _,h.lt⟩)
 have hsa':wa.heap.size=w.heap.size+1:=hsa
 have hgb:=aa hRa
 clear hpb hca hfa hba hbb hsb f0 h hRa
 go_enter func148,ntmps148
 go_upto_region 6 with (go_at_call 149;refine (hI1.out _ hS0.out.rd).mono ?_;rintro e w1 ⟨rfl,hb1⟩)
 have hS1:=aa (hS0.out.below hb1)
 clear hb1 hS0 x0 x1 x2 x3 x4 x5 c0 k0 k1 k2 k3 k4 k5
 go_upto_region 7 with (go_at_call 151;refine (hN.out _ hS1.out.rd).mono ?_;rintro e w2 ⟨rfl,hG2,hR2⟩;obtain ⟨w3,hw3,hb3,hs3,hl3,u0,u1,u2,u3,u4,u5⟩:=bD w2 kd1 wd1 hi1 lo1 pl1 S1)
 have hS2:=hS1.out.step hG2 hR2
 have hS3:=aa (hS2.below hb3.out)
 have hT3:=aa (show fi w3 w2.heap.size kd1 S1 wd1 hi1 lo1 pl1 from by rw [←hw3];exact bU w2 _ _ _ _ _ _)
 have hr:g<w2.heap.size∧w.heap.size+2≤w2.heap.size:=⟨hS2.rd.lt,hS2.sz⟩
 generalize w2.heap.size=r at*
 clear hG2 hR2 hS1 hS2 hw3 hb3 hs3 u0 u1 u2 u3 u4 u5
 go_upto_region 8 with (go_at_call 149;refine (hI2.out _ hS3.out.rd).mono ?_;rintro e w4 ⟨rfl,hb4⟩)
 have hS4:=aa (hS3.out.below hb4)
 have hT4:=aa (hT3.out.grg (g:=g) (ay.of hb4) (by omega))
 clear hb4 hS3 hT3
 go_upto_region 9 with (go_at_call 145;refine (hNx.out _ hS4.out.rd).mono ?_;rintro e w5 ⟨rfl,hG5,hR5⟩)
 have hS5:=aa (hS4.out.step hG5 hR5)
 have hT5:=aa (hT4.out.grg hG5 (by omega))
 clear hG5 hR5 hS4 hT4
 go_upto_region 10 with (go_at_call 151;refine (hN2.out _ hS5.out.rd).mono ?_;rintro e w6 ⟨rfl,hG6,hR6⟩;obtain ⟨w7,hw7,hb7,hs7,hl7,u0,u1,u2,u3,u4,u5⟩:=bD w6 kd2 wd2 hi2 lo2 pl2 S2)
 have hS6:=hS5.out.step hG6 hR6
 have hS7:=aa (hS6.below hb7.out)
 have hT7:=aa ((hT5.out.grg hG6 (by omega)).grg (g:=g) (ay.of hb7.out) (by omega))
 have hU7:=aa (show fi w7 w6.heap.size kd2 S2 wd2 hi2 lo2 pl2 from by rw [←hw7];exact bU w6 _ _ _ _ _ _)
 have hr2:g<w6.heap.size∧w.heap.size+2≤w6.heap.size∧r<w6.heap.size:=⟨hS6.rd.lt,hS6.sz,(hT5.out.grg hG6 (by omega)).lt⟩
 generalize w6.heap.size=r2 at*
 clear hG6 hR6 hS5 hS6 hT5 hw7 hb7 hs7 u0 u1 u2 u3 u4 u5
 obtain ⟨x0,x1,x2,x3,x4,x5⟩:=hS7.out.fb.cells
 have hlf:=hS7.out.fb.lt
 go_upto_region 11 with (go_at_call 91;refine (hA.out _).mono ?_;rintro e w8 ⟨rfl,hb8⟩)
 have hS8:=aa (hS7.out.below hb8)
 have hT8:=aa (hT7.out.grg (g:=g) (ay.of hb8) (by omega))
 have hU8:=aa (hU7.out.grg (g:=g) (ay.of hb8) (by omega))
 clear hb8 hS7 hlf x0 x1 x2 x3 x4 x5 hT7 hU7
 obtain ⟨x0,x1,x2,x3,x4,x5⟩:=hT8.out.cells
 have hlf:=hT8.out.lt
 go_upto_region 12 with (go_at_call 180;refine (hGo.out _).mono ?_;rintro e w9 ⟨rfl,hb9⟩)
 have hS9:=aa (hS8.out.below hb9)
 have hT9:=aa (hT8.out.grg (g:=g) (ay.of hb9) (by omega))
 have hU9:=aa (hU8.out.grg (g:=g) (ay.of hb9) (by omega))
 clear hb9 hS8 hlf x0 x1 x2 x3 x4 x5 hT8 hU8
 obtain ⟨x0,x1,x2,x3,x4,x5⟩:=hU9.out.cells
 have hlf:=hU9.out.lt
 go_upto_region 13 with (go_at_call 150;refine (hPl.out _).mono ?_;rintro e w10 ⟨rfl,hb10⟩)
 have hS10:=aa (hS9.out.below hb10)
 have hT10:=aa (hT9.out.grg (g:=g) (ay.of hb10) (by omega))
 have hU10:=aa (hU9.out.grg (g:=g) (ay.of hb10) (by omega))
 clear hb10 hS9 hlf x0 x1 x2 x3 x4 x5 hT9 hU9
 obtain ⟨-,-,-,p03,p04,-⟩:=hT10.out.cells
 have hlp0:=hT10.out.lt
 go_upto_region 14 with (go_at_call 181;refine (hPf.out _).mono ?_;rintro e w11 ⟨rfl,hb11⟩;obtain ⟨w11',hw11',hsz11,hbx11,hcx11,-⟩:=ak w11 #[.int .u64 X.vh,.int .u64 X.vl,.int .u64 X.mh,.int .u64 X.ml] 63)
 obtain ⟨q0,q1,q2,q3⟩:=wZ hcx11
 have hS11:=aa ((hS10.out.below hb11).below hbx11)
 have hlq:w11.heap.size<w11'.heap.size:=by omega
 obtain ⟨z0,z1,z2,z3,g0,g1,g2,g3⟩:=hS11.out.bx.cells
 have hl3:=hS11.out.bx.lt
 have hwn:w.heap.size≠w11.heap.size:=by have:=hS10.out.sz;have:=hb11.size;omega
 have hnw:w11.heap.size≠w.heap.size:=Ne.symm hwn
 replace hsz11:=aa hsz11
 clear hcx11 hbx11 hb11 hS10 p03 p04 hlp0
 go_wp2
 obtain ⟨r1,r2⟩:=hS11.out.done (.int .u64 X.vh) (.int .u64 X.vl) (.int .u64 X.mh) (.int .u64 X.ml)
 refine bodyPost_ret (v:=.tuple #[.agg #[.int .u64 X.vh,.int .u64 X.vl,.int .u64 X.mh,.int .u64 X.ml],.int .i64 L]) (by simp [results,results148,go_sem,z0,z1,z2,z3]) rfl ⟨rfl,r1,r2⟩
theorem uK {w:World} {g:Nat} {l:List Tk} {V:Array Value} (kd y:Int) (h:bb w g l V) (hw:aj y=true) (h1:bA [95] l=false) (h2:(af l).kind=2) (h3:bA [47] (ae l)=false) (h5:bA cH (ae l)=true) (h4:(af (ae (ae l))).kind=2) (hk:kd=3) (hg1:cT (af l) y=true) (hg2:cT (af (ae (ae l))) y=true):
  Calls prog 148 #[.pointer (some ⟨g,0,none⟩),.int .u8 kd,.int .i64 y] w fun e w'=>e=.returned (.tuple #[zq (py (af l).n (af (ae (ae l))).n),.int .i64 0])∧ay g w w'∧bb w' g (ae (ae (ae l))) V:=by
 have hI1:=aa (fun (W:World) (hW:bb W g (l) V)=>show Calls prog 149 #[.pointer (some ⟨g,0,none⟩),.string ⟨#[95]⟩] W fun e w'=>e=.returned (.bool false)∧Below W.heap.size W w' from by have hq0:=rq ⟨#[95]⟩ hW;rw [show bA (⟨#[95]⟩:ByteArray).data.toList (l)=false from h1] at hq0;exact hq0)
 have hI2:=aa (fun (W:World) (hW:bb W g (ae l) V)=>show Calls prog 149 #[.pointer (some ⟨g,0,none⟩),.string ⟨#[47]⟩] W fun e w'=>e=.returned (.bool false)∧Below W.heap.size W w' from by have hq0:=rq ⟨#[47]⟩ hW;rw [show bA (⟨#[47]⟩:ByteArray).data.toList (ae l)=false from h3] at hq0;exact hq0)
 have hI3:=aa (fun (W:World) (hW:bb W g (ae l) V)=>show Calls prog 149 #[.pointer (some ⟨g,0,none⟩),.string ⟨#[38,38,38]⟩] W fun e w'=>e=.returned (.bool true)∧Below W.heap.size W w' from by have hq0:=rq ⟨#[38,38,38]⟩ hW;rw [show bA (⟨#[38,38,38]⟩:ByteArray).data.toList (ae l)=true from h5] at hq0;exact hq0)
 have hN:=aa (fun (W:World) (hW:bb W g l V)=>fB hW h2)
 have hN2:=aa (fun (W:World) (hW:bb W g (ae (ae l)) V)=>fB hW h4)
 have hNx:=aa (fun (W:World) (hW:bb W g (ae l) V)=>jF hW)
 have hA:=aa (fun (W:World)=>aY (af l) 9 W)
 have hn128:(af l).n<2 ^ y.toNat:=fY hg1
 have hp128:=pK hw
 have hGo:=aa (fun (W:World)=>sK (af l) y W hg1 (by omega))
 have hm128:(af (ae (ae l))).n<2 ^ y.toNat:=fY hg2
 have hGo2:=aa (fun (W:World)=>sK (af (ae (ae l))) y W hg2 (by omega))
 have ek:(kd==3)=true:=by rw [hk];rfl
 have hMs:=aa (fun (W:World)=>xV (af l).n (af (ae (ae l))).n y W hw hn128 hm128)
 unfold nA at hMs
 generalize py (af l).n (af (ae (ae l))).n=X at hMs ⊢
 clear hn128 hp128 hg1 hg2 h2 h4 hk hm128
 generalize hhx:af (ae l)=tx at hNx
 clear hhx
 obtain ⟨kdx,sx,wdx,mx,plx⟩:=tx
 unfold g8 at hNx
 simp only at hNx
 generalize (⟨sx.toArray⟩:ByteArray)=SX at hNx
 generalize ((mx / 18446744073709551616:Nat):Int)=hix at hNx
 generalize ((mx % 18446744073709551616:Nat):Int)=lox at hNx
 generalize af (ae (ae l))=t2 at hN2 hGo2 hMs
 obtain ⟨kd2,s2,wd2,m2,pl2⟩:=t2
 unfold g8 at hN2 hGo2
 simp only at hN2 hGo2 hMs
 generalize (⟨s2.toArray⟩:ByteArray)=S2 at hN2 hGo2
 generalize hhi2:((m2 / 18446744073709551616:Nat):Int)=hi2 at hN2 hGo2 hMs
 generalize hlo2:((m2 % 18446744073709551616:Nat):Int)=lo2 at hN2 hGo2 hMs
 clear hhi2 hlo2
 have hG1:=h.lt
 obtain ⟨wa,hwa,hsa,hba,hca,hfa⟩:=ak w #[.int .u64 0,.int .u64 0,.int .u64 0,.int .u64 0] 63
 have hpb:fl wa w.heap.size 0 0 0 0:=by rw [←hwa];exact heap_alloc_new w _
 have hRa:=h.below hba h.lt
 obtain ⟨b,o,cap,lt,bg,pos,le,ml,c0,f0,k0,k1,k2,k3,k4,k5⟩:=hRa.open_
 have lz:(0:Int)<(l.length:Int):=by omega
 have hbl:b<wa.heap.size:=by omega
 generalize af l=t1 at k0 k1 k2 k3 k4 k5 hN hA hGo hMs
 obtain ⟨kd1,s1,wd1,m1,pl1⟩:=t1
 unfold g8 at hN hA hGo
 simp only at k0 k1 k2 k3 k4 k5 hN hA hGo hMs
 generalize (⟨s1.toArray⟩:ByteArray)=S1 at k1 hN hA hGo
 generalize hhi1:((m1 / 18446744073709551616:Nat):Int)=hi1 at k3 hN hA hGo hMs
 generalize hlo1:((m1 % 18446744073709551616:Nat):Int)=lo1 at k4 hN hA hGo hMs
 clear hhi1 hlo1
 obtain ⟨wb,hwb,hbb,hsb,hlb,x0,x1,x2,x3,x4,x5⟩:=bD wa kd1 wd1 hi1 lo1 pl1 S1
 have hS0:=aa (show uI w wb g l V kd1 S1 wd1 hi1 lo1 pl1 from ⟨(ay.of hba).trans (ay.of hbb.out),hRa.below hbb.out hRa.lt,hpb.grg (g:=g) (ay.of hbb.out) (by omega),by rw [show w.heap.size+1=wa.heap.size from hsa.symm,←hwb];exact bU wa _ _ _ _ _ _,h.lt⟩)
 have hsa':wa.heap.size=w.heap.size+1:=hsa
 have hgb:=aa hRa
 clear hpb hca hfa hba hbb hsb f0 h hRa
 go_enter func148,ntmps148
 go_upto_region 6 with (go_at_call 149;refine (hI1.out _ hS0.out.rd).mono ?_;rintro e w1 ⟨rfl,hb1⟩)
 have hS1:=aa (hS0.out.below hb1)
 clear hb1 hS0 x0 x1 x2 x3 x4 x5 c0 k0 k1 k2 k3 k4 k5
 go_upto_region 7 with (go_at_call 151;refine (hN.out _ hS1.out.rd).mono ?_;rintro e w2 ⟨rfl,hG2,hR2⟩;obtain ⟨w3,hw3,hb3,hs3,hl3,u0,u1,u2,u3,u4,u5⟩:=bD w2 kd1 wd1 hi1 lo1 pl1 S1)
 have hS2:=hS1.out.step hG2 hR2
 have hS3:=aa (hS2.below hb3.out)
 have hT3:=aa (show fi w3 w2.heap.size kd1 S1 wd1 hi1 lo1 pl1 from by rw [←hw3];exact bU w2 _ _ _ _ _ _)
 have hr:g<w2.heap.size∧w.heap.size+2≤w2.heap.size:=⟨hS2.rd.lt,hS2.sz⟩
 generalize w2.heap.size=r at*
 clear hG2 hR2 hS1 hS2 hw3 hb3 hs3 u0 u1 u2 u3 u4 u5
 go_upto_region 15 with (go_at_call 149;refine (hI2.out _ hS3.out.rd).mono ?_;rintro e w4 ⟨rfl,hb4⟩)
 have hS4:=aa (hS3.out.below hb4)
 have hT4:=aa (hT3.out.grg (g:=g) (ay.of hb4) (by omega))
 clear hb4 hS3 hT3
 go_upto_region 16 with (go_at_call 149;refine (hI3.out _ hS4.out.rd).mono ?_;rintro e w5 ⟨rfl,hb5⟩)
 have hS5:=aa (hS4.out.below hb5)
 have hT5:=aa (hT4.out.grg (g:=g) (ay.of hb5) (by omega))
 clear hb5 hS4 hT4
 go_upto_region 17 with (go_at_call 145;refine (hNx.out _ hS5.out.rd).mono ?_;rintro e w6 ⟨rfl,hG6,hR6⟩)
 have hS6:=aa (hS5.out.step hG6 hR6)
 have hT6:=aa (hT5.out.grg hG6 (by omega))
 clear hG6 hR6 hS5 hT5
 go_upto_region 18 with (go_at_call 151;refine (hN2.out _ hS6.out.rd).mono ?_;rintro e w7 ⟨rfl,hG7,hR7⟩;obtain ⟨w8,hw8,hb8,hs8,hl8,u0,u1,u2,u3,u4,u5⟩:=bD w7 kd2 wd2 hi2 lo2 pl2 S2)
 have hS7:=hS6.out.step hG7 hR7
 have hS8:=aa (hS7.below hb8.out)
 have hT8:=aa ((hT6.out.grg hG7 (by omega)).grg (g:=g) (ay.of hb8.out) (by omega))
 have hU8:=aa (show fi w8 w7.heap.size kd2 S2 wd2 hi2 lo2 pl2 from by rw [←hw8];exact bU w7 _ _ _ _ _ _)
 have hr2:g<w7.heap.size∧w.heap.size+2≤w7.heap.size∧r<w7.heap.size:=⟨hS7.rd.lt,hS7.sz,(hT6.out.grg hG7 (by omega)).lt⟩
 generalize w7.heap.size=r2 at*
 clear hG7 hR7 hS6 hS7 hT6 hw8 hb8 hs8 u0 u1 u2 u3 u4 u5
 obtain ⟨x0,x1,x2,x3,x4,x5⟩:=hS8.out.fb.cells
 have hlf:=hS8.out.fb.lt
 go_upto_region 19 with (go_at_call 91;refine (hA.out _).mono ?_;rintro e w9 ⟨rfl,hb9⟩)
 have hS9:=aa (hS8.out.below hb9)
 have hT9:=aa (hT8.out.grg (g:=g) (ay.of hb9) (by omega))
 have hU9:=aa (hU8.out.grg (g:=g) (ay.of hb9) (by omega))
 clear hb9 hS8 hlf x0 x1 x2 x3 x4 x5 hT8 hU8
 obtain ⟨x0,x1,x2,x3,x4,x5⟩:=hT9.out.cells
 have hlf:=hT9.out.lt
 go_upto_region 20 with (go_at_call 180;refine (hGo.out _).mono ?_;rintro e w10 ⟨rfl,hb10⟩)
 have hS10:=aa (hS9.out.below hb10)
 have hT10:=aa (hT9.out.grg (g:=g) (ay.of hb10) (by omega))
 have hU10:=aa (hU9.out.grg (g:=g) (ay.of hb10) (by omega))
 clear hb10 hS9 hlf x0 x1 x2 x3 x4 x5 hT9 hU9
 obtain ⟨x0,x1,x2,x3,x4,x5⟩:=hU10.out.cells
 have hlf:=hU10.out.lt
 go_upto_region 21 with (go_at_call 180;refine (hGo2.out _).mono ?_;rintro e w11 ⟨rfl,hb11⟩)
 have hS11:=aa (hS10.out.below hb11)
 have hT11:=aa (hT10.out.grg (g:=g) (ay.of hb11) (by omega))
 have hU11:=aa (hU10.out.grg (g:=g) (ay.of hb11) (by omega))
 clear hb11 hS10 hlf x0 x1 x2 x3 x4 x5 hT10 hU10
 obtain ⟨-,-,-,p03,p04,-⟩:=hT11.out.cells
 have hlp0:=hT11.out.lt
 obtain ⟨-,-,-,p13,p14,-⟩:=hU11.out.cells
 have hlp1:=hU11.out.lt
 go_upto_region 22 with (go_at_call 182;refine (hMs.out _).mono ?_;rintro e w12 ⟨rfl,hb12⟩;obtain ⟨w12',hw12',hsz12,hbx12,hcx12,-⟩:=ak w12 #[.int .u64 X.vh,.int .u64 X.vl,.int .u64 X.mh,.int .u64 X.ml] 63)
 obtain ⟨q0,q1,q2,q3⟩:=wZ hcx12
 have hS12:=aa ((hS11.out.below hb12).below hbx12)
 have hlq:w12.heap.size<w12'.heap.size:=by omega
 obtain ⟨z0,z1,z2,z3,g0,g1,g2,g3⟩:=hS12.out.bx.cells
 have hl3:=hS12.out.bx.lt
 have hwn:w.heap.size≠w12.heap.size:=by have:=hS11.out.sz;have:=hb12.size;omega
 have hnw:w12.heap.size≠w.heap.size:=Ne.symm hwn
 replace hsz12:=aa hsz12
 clear hcx12 hbx12 hb12 hS11 p03 p04 hlp0 p13 p14 hlp1
 go_wp2
 obtain ⟨r1,r2⟩:=hS12.out.done (.int .u64 X.vh) (.int .u64 X.vl) (.int .u64 X.mh) (.int .u64 X.ml)
 refine bodyPost_ret (v:=.tuple #[.agg #[.int .u64 X.vh,.int .u64 X.vl,.int .u64 X.mh,.int .u64 X.ml],.int .i64 0]) (by simp [results,results148,go_sem,z0,z1,z2,z3]) rfl ⟨rfl,r1,r2⟩
theorem Fl {w:World} {g:Nat} {l l':List Tk} {V:Array Value} {kd y len:Int} {x:Pt} (h:bb w g l V) (hw:aj y=true) (ho:nc kd y l=some (x,len,l')):
  Calls prog 148 #[.pointer (some ⟨g,0,none⟩),.int .u8 kd,.int .i64 y] w fun e w'=>e=.returned (.tuple #[zq x,.int .i64 len])∧ay g w w'∧bb w' g l' V:=by
 unfold nc lK at ho
 by_cases h1:bA [95] l=true
 ·rw [if_pos h1] at ho
  by_cases hk:kd=1
  ·rw [if_pos hk] at ho;cases ho
  ·rw [if_neg hk] at ho
   cases ho
   exact yd kd y h h1 hk
 ·rw [if_neg h1] at ho
  replace h1:=Bool.eq_false_iff.2 h1
  by_cases h2:(af l).kind=2
  ·rw [if_pos h2] at ho
   simp only [Hq] at ho
   by_cases h3:bA [47] (ae l)=true
   ·rw [if_pos h3] at ho
    by_cases h4:(af (ae (ae l))).kind=2
    ·rw [if_pos h4] at ho
     simp only [Hq] at ho
     split at ho
     ·rename_i hc
      cases ho
      exact qT kd y h hw h1 h2 h3 h4 hc.1 hc.2.1 hc.2.2
     ·cases ho
    ·rw [if_neg h4] at ho;cases ho
   ·rw [if_neg h3] at ho
    replace h3:=Bool.eq_false_iff.2 h3
    by_cases h5:bA cH (ae l)=true
    ·rw [if_pos h5] at ho
     by_cases h4:(af (ae (ae l))).kind=2
     ·rw [if_pos h4] at ho
      simp only [Hq] at ho
      split at ho
      ·rename_i hc
       cases ho
       exact uK kd y h hw h1 h2 h3 h5 h4 hc.1 hc.2.1 hc.2.2
      ·cases ho
     ·rw [if_neg h4] at ho;cases ho
    ·rw [if_neg h5] at ho
     replace h5:=Bool.eq_false_iff.2 h5
     split at ho
     ·rename_i hc
      cases ho
      exact sL kd y h hw h1 h2 h3 h5 hc.1 hc.2
     ·cases ho
  ·rw [if_neg h2] at ho;cases ho
end
theorem aZ {w w':World} {base g k n:Nat} {e:TypeId} {v:Value} {xs:List Value} (h:w.ownsRow base e k v n xs) (hG:ay g w w') (hg:g<base):w'.ownsRow base e k v n xs:=by
 refine ⟨h.1,?_⟩
 rcases h.2 with h2|⟨b,cap,cur,rfl,hb,hh,r⟩
 ·exact .inl h2
 ·exact .inr ⟨b,cap,cur,rfl,hb,(hG.block b (h.lt b rfl).2 (by simp;omega)).trans hh,r⟩
theorem bO {w:World} {base size n:Nat} {e:TypeId} {v:Value} {xs:List Value} (h:w.ownsRow base e size v n xs):∃ A cap,v=.slice A n cap:=by
 rcases h.2 with ⟨rfl,hz⟩|⟨g,cap,cur,rfl,_⟩
 ·exact ⟨none,0,by rw [hz]⟩
 ·exact ⟨_,_,rfl⟩
theorem du {w:World} {base base' size n:Nat} {e:TypeId} {v:Value} {xs:List Value} (h:w.ownsRow base e size v n xs) (hb:base'≤base):w.ownsRow base' e size v n xs:=by
 refine ⟨h.1,?_⟩
 rcases h.2 with h2|⟨b,cap,cur,h0,hbb,r⟩
 ·exact .inl h2
 ·exact .inr ⟨b,cap,cur,h0,Hj hb hbb,r⟩
theorem eu {α:Type} {f:α→List Value} {e t:TypeId} {k bytes:Nat} {z:Value} (ht:prog.underlying t=some (.slice e)) (hi:(prog.info? e).map (fun i=>(i.zero,i.size,i.bytes))=some (some z,k,bytes)) (hzc:z.cells.size=k) (hk0:0<k) (hf:∀ x,(f x).length=k) (h1:∀ x,∀ u∈f x,u.oneCell'=true)
  {W:World} {base:Nat} {v:Value} {l:List α} (x:α) (hd:W.ownsRow base e k v l.length (l.flatMap f)) (hb:base≤W.heap.size) (hz:l.length<100000) (hby:bytes≤1000):
  ∃ v' w',(eO #[t,t] t #[v,.slice (some ⟨W.heap.size,0,none⟩) 1 1]).run prog (W.alloc (.cells (f x).toArray e))=.ok v' w'∧w'.ownsRow base e k v' (l++ [x]).length ((l++ [x]).flatMap f)∧(W.alloc (.cells (f x).toArray e)).grownBy w' v.ownBlock∧Below base W w'∧(v'.ownBlock=v.ownBlock∨v'.ownBlock=some (W.heap.size+1)):=by
 obtain ⟨ii,hii,hzi0,hzi1,hzi2⟩:=info_parts hi
 obtain ⟨v',w',hrun,h2,h3,_,h5⟩:=run_append_own_at (P:=prog) (W.alloc (.cells (f x).toArray e)) base t t e ii z k bytes ht hii hzi0 hzi1 hzi2 hzc hk0 v l.length _ (World.ownsRow.alloc hd _) ⟨W.heap.size,0,none⟩ 1 1 (f x) (by rw [hf,Nat.one_mul]) (World.news_of_block (cs:=(f x).toArray) (t:=e) (fr:=(0,0)) (heap_alloc_new W _)) (h1 x) (by simp [maxLen];omega) (by have:=Nat.mul_le_mul (show l.length+1≤100000 by omega) hby;omega) (by simp;omega)
 exact ⟨v',w',hrun,by simpa using h2,h3,((Hf _ _).alloc hb _).grown h3 (by simp;omega) (fun g e=>(hd.lt g e).1),by simpa using h5⟩
theorem ye:(prog.info? 61).map (fun i=>(i.zero,i.size,i.bytes))=some (some (.agg #[.int .u64 0,.int .u64 0]),2,16):=by kernel_rfl
theorem yf:(prog.info? 63).map (fun i=>(i.zero,i.size,i.bytes))=some (some (.agg #[.int .u64 0,.int .u64 0,.int .u64 0,.int .u64 0]),4,32):=by kernel_rfl
theorem yh:(prog.info? 3).map (fun i=>(i.zero,i.size,i.bytes))=some (some (.int .i64 0),1,8):=by kernel_rfl
theorem yi:(prog.info? 57).map (fun i=>(i.zero,i.size,i.bytes))=some (some (.agg #[.int .i64 0,.slice none 0 0,.int .i64 0,.int .i64 0,.int .i64 0,.slice none 0 0]),6,80):=by kernel_rfl
theorem pP:(prog.info? 9).map (fun i=>(i.zero,i.size,i.bytes))=some (some (.string ⟨#[]⟩),1,16):=by kernel_rfl
def FE (x:Int×Int):List Value:= [.int .u64 x.1,.int .u64 x.2]
def FG (x:Pt):List Value:= [.int .u64 x.vh,.int .u64 x.vl,.int .u64 x.mh,.int .u64 x.ml]
def E7 (x:Int):List Value:= [.int .i64 x]
def uL (x:ByteArray):List Value:= [.string x]
def oN (w:World) (base:Nat) (v:Value) (l:List (Int×Int)):Prop:=(∀ x∈l,aI x.1∧aI x.2)∧w.ownsRow base 61 2 v l.length (l.flatMap FE)
def Bn (w:World) (base:Nat) (v:Value) (l:List Pt):Prop:=(∀ x∈l,em x)∧w.ownsRow base 63 4 v l.length (l.flatMap FG)
def lP (w:World) (base:Nat) (v:Value) (l:List Int):Prop:=w.ownsRow base 3 1 v l.length (l.flatMap E7)
def wk (w:World) (base:Nat) (v:Value) (l:List ByteArray):Prop:=w.ownsRow base 9 1 v l.length (l.flatMap uL)
theorem oN.sl {w:World} {base:Nat} {v:Value} {l:List (Int×Int)} (h:oN w base v l):∃ A cap,v=.slice A l.length cap∧Sl 2 ke w w.heap.size A l:=j4 (f:=FE) (fun _=>rfl) (fun x hx=>⟨rfl,h.1 x hx⟩) h.2
theorem Bn.sl {w:World} {base:Nat} {v:Value} {l:List Pt} (h:Bn w base v l):∃ A cap,v=.slice A l.length cap∧Sl 4 mR w w.heap.size A l:=j4 (f:=FG) (fun _=>rfl) (fun x hx=>⟨rfl,h.1 x hx⟩) h.2
theorem lP.sl {w:World} {base:Nat} {v:Value} {l:List Int} (h:lP w base v l):∃ A cap,v=.slice A l.length cap∧Sl 1 bd w w.heap.size A l:=j4 (f:=E7) (fun _=>rfl) (fun x hx=>rfl) h
theorem yj {W:World} {base:Nat} {v:Value} {l:List (Int×Int)} (x:Int×Int) (hx:aI x.1∧aI x.2) (hd:oN W base v l) (hb:base≤W.heap.size) (hz:l.length<100000):
  ∃ v' w',(eO #[53,53] 53 #[v,.slice (some ⟨W.heap.size,0,none⟩) 1 1]).run prog (W.alloc (.cells #[.int .u64 x.1,.int .u64 x.2] 61))=.ok v' w'∧oN w' base v' (l++ [x])∧Below base W w':=by
 obtain ⟨v',w',h1,h2,-,h4,-⟩:=eu (f:=FE) underlying53 ye rfl (by decide) (fun _=>rfl) (fun x u hu=>by simp [FE] at hu;rcases hu with rfl|rfl<;>rfl) x hd.2 hb hz (by decide)
 exact ⟨v',w',h1,⟨fun y hy=>by
  rcases H0.1 hy with hy|hy
  ·exact hd.1 y hy
  ·rw [List.mem_singleton] at hy;rw [hy];exact hx,h2⟩,h4⟩
theorem yk {W:World} {base:Nat} {v:Value} {l:List Int} (x:Int) (hd:lP W base v l) (hb:base≤W.heap.size) (hz:l.length<100000):
  ∃ v' w',(eO #[23,23] 23 #[v,.slice (some ⟨W.heap.size,0,none⟩) 1 1]).run prog (W.alloc (.cells #[.int .i64 x] 3))=.ok v' w'∧lP w' base v' (l++ [x])∧Below base W w':=by
 obtain ⟨v',w',h1,h2,-,h4,-⟩:=eu (f:=E7) underlying23 yh rfl (by decide) (fun _=>rfl) (fun x u hu=>by simp [E7] at hu;rw [hu];rfl) x hd hb hz (by decide)
 exact ⟨v',w',h1,h2,h4⟩
theorem ym {W:World} {base:Nat} {v:Value} {l:List ByteArray} (x:ByteArray) (hd:wk W base v l) (hb:base≤W.heap.size) (hz:l.length<100000):
  ∃ v' w',(eO #[28,28] 28 #[v,.slice (some ⟨W.heap.size,0,none⟩) 1 1]).run prog (W.alloc (.cells #[.string x] 9))=.ok v' w'∧wk w' base v' (l++ [x])∧Below base W w':=by
 obtain ⟨v',w',h1,h2,-,h4,-⟩:=eu (f:=uL) underlying28 pP rfl (by decide) (fun _=>rfl) (fun x u hu=>by simp [uL] at hu;rw [hu];rfl) x hd hb hz (by decide)
 exact ⟨v',w',h1,h2,h4⟩
def nN (g:Nat) (W:World):Nat:=match W.cell? ⟨g,13,none⟩ with
 |some (.slice _ n _)=>n
 |_=>0
theorem bb.left {w:World} {g:Nat} {l:List Tk} {V:Array Value} (h:bb w g l V):nN g w=l.length:=by
 obtain ⟨b,o,cap,hO⟩:=h.open_
 unfold nN
 rw [hO.c0]
theorem yo {x:List UInt8} {l:List Tk} (h:bA x l=true):(af l).kind≠0:=by
 unfold bA at h
 rw [Hl] at h
 intro e
 rw [e] at h
 simp at h
theorem Fo (n:Nat) (h:n<2 ^ 128):aI (Cu n).1∧aI (Cu n).2:=da h
section
open Go.RowKit Go.Lib
theorem wt (n:Nat):∀ (l:List (List UInt8)),(∀ x∈l,x.length≤n)→lens l≤l.length*n
 | [],_=>by simp [lens]
 |x::l,h=>by
  have:=wt n l fun y hy=>h y (HI _ hy)
  have:=h x HE
  simp only [lens,Hp,Nat.succ_mul,HL,List.sum_cons] at*
  omega
theorem eA {n m:Nat} {l:List (List UInt8)} (h:∀ x∈l,x.length≤n) (hm:l.length≤m):(join l bR).length≤m*n+2*m:=by
 cases l with
 |nil=>rw [join_nil];simp
 |cons x r=>
  rw [join_cons,Hu,joinTail_length]
  have h1:=wt n r fun y hy=>h y (HI _ hy)
  have h2:=h x HE
  have h3:r.length+1≤m:=hm
  have h4:(r.length+1)*n≤m*n:=Ib _ h3
  rw [Nat.add_mul] at h4
  simp only [bR,Hp,HY]
  omega
theorem Bo (l:List ByteArray) (v:Value) (base:Nat) (w:World) (h:wk w base v l) (hl:(join (l.map (·.data.toList)) bR).length≤140737488355328) (hn:l.length≤100000):
  Calls prog 79 #[v,.string ⟨#[44,32]⟩] w fun e w'=>e=.returned (.string ⟨(join (l.map (·.data.toList)) bR).toArray⟩)∧Below w.heap.size w w':=by
 rcases h.2 with ⟨rfl,hz⟩|⟨g,cap,cur,rfl,hb,hh,hnc,hcm,hcs,ht⟩
 ·have:l= []:=H8 hz
  subst this
  exact (Tryz.strings_Join_none none 0 ⟨#[44,32]⟩ w).mono fun e w' h=>⟨h.1,h.2 ▸ Hf _ _⟩
 ·refine Tryz.strings_Join g 0 cap l ⟨#[44,32]⟩ w (fun j x hx=> ?_) (bL hh) (by omega) hnc hl
  have hj:=(HV.1 hx).1
  rw [HS,World.ownsRow.cellAt h j (by omega)]
  rw [show l.flatMap uL=l.map Value.string from by clear hl ht hx h hj hn hnc;induction l with|nil=>rfl|cons y l ih=>simp [uL,ih]]
  rw [List.getElem?_map,hx];rfl
theorem wk.below {w w':World} {base C:Nat} {v:Value} {l:List ByteArray} (h:wk w base v l) (hb:Below C w w') (hC:w.heap.size≤C):wk w' base v l:=dX h hb hC
theorem wk.form {w:World} {base:Nat} {v:Value} {l:List ByteArray} (h:wk w base v l):∃ A c,v=.slice A l.length c:=bO h
end
end Go.Proofs.YtiebolhmdhdagaaGreatDoor

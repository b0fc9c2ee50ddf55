import Derived.Test.YtijcdfdbkffiaaaGreatDoorCbp10
import Derived.Lib.ItoaLen
set_option linter.all false
set_option maxHeartbeats 8000000
set_option maxRecDepth 100000
open Go.Proofs.Tryz
namespace Go.Proofs.YtijcdfdbkffiaaaGreatDoor
open _root_.Nat renaming lt_of_lt_of_le→Hr, le_refl→Ht, le_trans→Hw, zero_le→Hz, le_of_lt→HL
open _root_.Go.RowKit.Below renaming refl→Hs
open _root_.Bool renaming false_and→Hu, true_and→Hx, and_eq_true→Hy, eq_iff_iff→HF
open _root_.List renaming getElem?_eq_getElem→HA, getElem?_toArray→HB, getElem?_cons_zero→HC, getElem?_cons_succ→HD, set_cons_succ→HJ, all_eq_true→HT, mem_append→HZ, getElem?_eq_some_iff→H1, getD_eq_getElem?_getD→Iq
open _root_.Option renaming bind_some→HP, getD_some→If
open Go.RowKit
section
attribute [local go_sem] run_panic_iface
theorem fC {t:Tk} {y:Int} (h:eT t y=true):t.n<2 ^ y.toNat:=by unfold eT at h;rw [Hy] at h;exact of_decide_eq_true h.2
def eY (W:World) (r:Nat) (c0:Int) (s:ByteArray) (c2 c3 c4 c5:Int):Prop:=W.heap[r]? =some (.cells #[.int .u8 c0,.string s,.int .i64 c2,.int .u64 c3,.int .u64 c4,.int .i64 c5] 209 (0,0))
theorem eY.lt {W:World} {r:Nat} {c0 c2 c3 c4 c5:Int} {s:ByteArray} (h:eY W r c0 s c2 c3 c4 c5):r<W.heap.size:=aN h
theorem eY.grg {g:Nat} {W W':World} {r:Nat} {c0 c2 c3 c4 c5:Int} {s:ByteArray} (h:eY W r c0 s c2 c3 c4 c5) (hG:aE g W W') (hn:r≠g):eY W' r c0 s c2 c3 c4 c5:=(hG.blk h.lt hn).trans h
theorem fy.grg {g:Nat} {W W':World} {r:Nat} {a b c d:Int} (h:fy W r a b c d) (hG:aE g W W') (hn:r≠g):fy W' r a b c d:=(hG.blk h.lt hn).trans h
theorem eY.cells {W:World} {r:Nat} {c0 c2 c3 c4 c5:Int} {s:ByteArray} (h:eY W r c0 s c2 c3 c4 c5):W.cell? ⟨r,0,none⟩=some (.int .u8 c0)∧W.cell? ⟨r,1,none⟩=some (.string s)∧W.cell? ⟨r,2,none⟩=some (.int .i64 c2)∧W.cell? ⟨r,3,none⟩=some (.int .u64 c3)∧W.cell? ⟨r,4,none⟩=some (.int .u64 c4)∧W.cell? ⟨r,5,none⟩=some (.int .i64 c5):=
 ⟨aH h 0,aH h 1,aH h 2,aH h 3,aH h 4,aH h 5⟩
structure uV (w W:World) (g:Nat) (l:List Tk) (V:Array Value) (c0:Int) (s:ByteArray) (c2 c3 c4 c5:Int):Prop where
 grg:aE g w W
 rd:bq W g l V
 bx:fy W w.heap.size 0 0 0 0
 fb:eY W (w.heap.size+1) c0 s c2 c3 c4 c5
 lt:g<w.heap.size
theorem uV.step {w W W':World} {g:Nat} {l l':List Tk} {V:Array Value} {c0 c2 c3 c4 c5:Int} {s:ByteArray} (h:uV w W g l V c0 s c2 c3 c4 c5) (hG:aE g W W') (hR:bq W' g l' V):uV w W' g l' V c0 s c2 c3 c4 c5:=
 ⟨h.grg.trans hG,hR,h.bx.grg hG (by have:=h.lt;omega),h.fb.grg hG (by have:=h.lt;omega),h.lt⟩
theorem uV.below {w W W':World} {g:Nat} {l:List Tk} {V:Array Value} {c0 c2 c3 c4 c5:Int} {s:ByteArray} (h:uV w W g l V c0 s c2 c3 c4 c5) (hb:Below W.heap.size W W'):uV w W' g l V c0 s c2 c3 c4 c5:=
 h.step (aE.of hb) (h.rd.below hb h.rd.lt)
theorem uV.sz {w W:World} {g:Nat} {l:List Tk} {V:Array Value} {c0 c2 c3 c4 c5:Int} {s:ByteArray} (h:uV w W g l V c0 s c2 c3 c4 c5):w.heap.size+2≤W.heap.size:=h.fb.lt
theorem uV.done {w W:World} {g:Nat} {l:List Tk} {V:Array Value} {c0 c2 c3 c4 c5:Int} {s:ByteArray} (h:uV w W g l V c0 s c2 c3 c4 c5) (a b c d:Value):
  aE g w ((((W.setCell ⟨w.heap.size,0,none⟩ a).setCell ⟨w.heap.size,1,none⟩ b).setCell ⟨w.heap.size,2,none⟩ c).setCell ⟨w.heap.size,3,none⟩ d)∧bq ((((W.setCell ⟨w.heap.size,0,none⟩ a).setCell ⟨w.heap.size,1,none⟩ b).setCell ⟨w.heap.size,2,none⟩ c).setCell ⟨w.heap.size,3,none⟩ d) g l V:=
 ⟨(((h.grg.setNew (Ht _) _).setNew (Ht _) _).setNew (Ht _) _).setNew (Ht _) _,(((h.rd.setNew h.lt _).setNew h.lt _).setNew h.lt _).setNew h.lt _⟩
theorem cK (W:World) (c0 c2 c3 c4 c5:Int) (s:ByteArray):eY (W.alloc (.cells #[.int .u8 c0,.string s,.int .i64 c2,.int .u64 c3,.int .u64 c4,.int .i64 c5] 209)) W.heap.size c0 s c2 c3 c4 c5:=heap_alloc_new W _
theorem wV {w:World} {g:Nat} {l:List Tk} {V:Array Value} (kd y:Int) (h:bq w g l V) (h1:cD [95] l=true) (hk:kd≠1):
  Calls prog 191 #[.pointer (some ⟨g,0,none⟩),.int .u8 kd,.int .i64 y] w fun e w'=>e=.returned (.tuple #[CD (EI 0 0),.int .i64 0])∧aE g w w'∧bq w' g (ai l) V:=by
 have hI1:=aa (fun (W:World) (hW:bq W g (l) V)=>show Calls prog 192 #[.pointer (some ⟨g,0,none⟩),.string ⟨#[95]⟩] W fun e w'=>e=.returned (.bool true)∧Below W.heap.size W w' from by have hq0:=tB ⟨#[95]⟩ hW;rw [show cD (⟨#[95]⟩:ByteArray).data.toList (l)=true from h1] at hq0;exact hq0)
 have hN:=aa (fun (W:World) (hW:bq W g l V)=>iY hW)
 have hA:=aa (fun (W:World)=>bi (ag l) 9 W)
 have ek:(kd !=1)=true:=by rw [bne_iff_ne];exact hk
 have hG1:=h.lt
 obtain ⟨wa,hwa,hsa,hba,hca,hfa⟩:=af w #[.int .u64 0,.int .u64 0,.int .u64 0,.int .u64 0] 101
 have hpb:fy wa w.heap.size 0 0 0 0:=by rw [←hwa];exact heap_alloc_new w _
 have hRa:=h.below hba h.lt
 obtain ⟨b,o,cap,lt,bg,pos,le,ml,c0,f0,k0,k1,k2,k3,k4,k5⟩:=hRa.open_
 have lz:(0:Int)<(l.length:Int):=by omega
 have hbl:b<wa.heap.size:=by omega
 generalize ag l=t1 at k0 k1 k2 k3 k4 k5 hN hA
 obtain ⟨kd1,s1,wd1,m1,pl1⟩:=t1
 unfold iF at hN hA
 simp only at k0 k1 k2 k3 k4 k5 hN hA
 generalize (⟨s1.toArray⟩:ByteArray)=S1 at k1 hN hA
 generalize hhi1:((m1 / 18446744073709551616:Nat):Int)=hi1 at k3 hN hA
 generalize hlo1:((m1 % 18446744073709551616:Nat):Int)=lo1 at k4 hN hA
 clear hhi1 hlo1
 obtain ⟨wb,hwb,hbb,hsb,hlb,x0,x1,x2,x3,x4,x5⟩:=bL wa kd1 wd1 hi1 lo1 pl1 S1
 have hS0:=aa (show uV w wb g l V kd1 S1 wd1 hi1 lo1 pl1 from ⟨(aE.of hba).trans (aE.of hbb.out),hRa.below hbb.out hRa.lt,hpb.grg (g:=g) (aE.of hbb.out) (by omega),by rw [show w.heap.size+1=wa.heap.size from hsa.symm,←hwb];exact cK wa _ _ _ _ _ _,h.lt⟩)
 have hsa':wa.heap.size=w.heap.size+1:=hsa
 have hgb:=aa hRa
 clear hpb hca hfa hba hbb hsb f0 h hRa
 go_enter func191,ntmps191
 go_upto_region 3 with (go_at_call 192;refine (hI1.out _ hS0.out.rd).mono ?_;rintro e w1 ⟨rfl,hb1⟩)
 have hS1:=aa (hS0.out.below hb1)
 clear hb1 hS0 x0 x1 x2 x3 x4 x5 c0 k0 k1 k2 k3 k4 k5
 go_upto_region 4 with (go_at_call 187;refine (hN.out _ hS1.out.rd).mono ?_;rintro e w2 ⟨rfl,hG2,hR2⟩)
 have hS2:=aa (hS1.out.step hG2 hR2)
 clear hG2 hR2 hS1
 obtain ⟨x0,x1,x2,x3,x4,x5⟩:=hS2.out.fb.cells
 have hl2:=hS2.out.fb.lt
 go_upto_region 5 with (go_at_call 163;refine (hA.out _).mono ?_;rintro e w3 ⟨rfl,hb3⟩)
 have hS3:=aa (hS2.out.below hb3)
 clear hb3 hS2 x0 x1 x2 x3 x4 x5
 obtain ⟨z0,z1,z2,z3,g0,g1,g2,g3⟩:=hS3.out.bx.cells
 have hl3:=hS3.out.bx.lt
 go_wp2
 obtain ⟨r1,r2⟩:=hS3.out.done (.int .u64 0) (.int .u64 0) (.int .u64 0) (.int .u64 0)
 refine bodyPost_ret (v:=.tuple #[.agg #[.int .u64 0,.int .u64 0,.int .u64 0,.int .u64 0],.int .i64 0]) (by simp [results,results191,go_sem,z0,z1,z2,z3]) rfl ⟨rfl,r1,r2⟩
theorem qY {w:World} {g:Nat} {l:List Tk} {V:Array Value} (kd y:Int) (h:bq w g l V) (hw:aj y=true) (h1:cD [95] l=false) (h2:(ag l).kind=2) (h3:cD [47] (ai l)=false) (h4:cD nW (ai l)=false) (hk:kd≠2) (hg1:eT (ag l) y=true):
  Calls prog 191 #[.pointer (some ⟨g,0,none⟩),.int .u8 kd,.int .i64 y] w fun e w'=>e=.returned (.tuple #[CD (pV (ag l).n (dD y.toNat y.toNat)),.int .i64 0])∧aE g w w'∧bq w' g (ai l) V:=by
 have hI1:=aa (fun (W:World) (hW:bq W g (l) V)=>show Calls prog 192 #[.pointer (some ⟨g,0,none⟩),.string ⟨#[95]⟩] W fun e w'=>e=.returned (.bool false)∧Below W.heap.size W w' from by have hq0:=tB ⟨#[95]⟩ hW;rw [show cD (⟨#[95]⟩:ByteArray).data.toList (l)=false from h1] at hq0;exact hq0)
 have hI2:=aa (fun (W:World) (hW:bq W g (ai l) V)=>show Calls prog 192 #[.pointer (some ⟨g,0,none⟩),.string ⟨#[47]⟩] W fun e w'=>e=.returned (.bool false)∧Below W.heap.size W w' from by have hq0:=tB ⟨#[47]⟩ hW;rw [show cD (⟨#[47]⟩:ByteArray).data.toList (ai l)=false from h3] at hq0;exact hq0)
 have hI3:=aa (fun (W:World) (hW:bq W g (ai l) V)=>show Calls prog 192 #[.pointer (some ⟨g,0,none⟩),.string ⟨#[38,38,38]⟩] W fun e w'=>e=.returned (.bool false)∧Below W.heap.size W w' from by have hq0:=tB ⟨#[38,38,38]⟩ hW;rw [show cD (⟨#[38,38,38]⟩:ByteArray).data.toList (ai l)=false from h4] at hq0;exact hq0)
 have hN:=aa (fun (W:World) (hW:bq W g l V)=>fW hW h2)
 have hA:=aa (fun (W:World)=>bi (ag l) 9 W)
 have hn128:(ag l).n<2 ^ y.toNat:=fC hg1
 have hp128:=nY hw
 have hGo:=aa (fun (W:World)=>qX (ag l) y W hg1 (by omega))
 have ek:(kd !=2)=true:=by rw [bne_iff_ne];exact hk
 have hEx:=aa (fun (W:World)=>zT (ag l).n y W hw hn128)
 unfold nA at hEx
 generalize pV (ag l).n (dD y.toNat y.toNat)=X at hEx ⊢
 clear hn128 hp128 hg1 h2
 have hG1:=h.lt
 obtain ⟨wa,hwa,hsa,hba,hca,hfa⟩:=af w #[.int .u64 0,.int .u64 0,.int .u64 0,.int .u64 0] 101
 have hpb:fy wa w.heap.size 0 0 0 0:=by rw [←hwa];exact heap_alloc_new w _
 have hRa:=h.below hba h.lt
 obtain ⟨b,o,cap,lt,bg,pos,le,ml,c0,f0,k0,k1,k2,k3,k4,k5⟩:=hRa.open_
 have lz:(0:Int)<(l.length:Int):=by omega
 have hbl:b<wa.heap.size:=by omega
 generalize ag l=t1 at k0 k1 k2 k3 k4 k5 hN hA hGo hEx
 obtain ⟨kd1,s1,wd1,m1,pl1⟩:=t1
 unfold iF at hN hA hGo
 simp only at k0 k1 k2 k3 k4 k5 hN hA hGo hEx
 generalize (⟨s1.toArray⟩:ByteArray)=S1 at k1 hN hA hGo
 generalize hhi1:((m1 / 18446744073709551616:Nat):Int)=hi1 at k3 hN hA hGo hEx
 generalize hlo1:((m1 % 18446744073709551616:Nat):Int)=lo1 at k4 hN hA hGo hEx
 clear hhi1 hlo1
 obtain ⟨wb,hwb,hbb,hsb,hlb,x0,x1,x2,x3,x4,x5⟩:=bL wa kd1 wd1 hi1 lo1 pl1 S1
 have hS0:=aa (show uV w wb g l V kd1 S1 wd1 hi1 lo1 pl1 from ⟨(aE.of hba).trans (aE.of hbb.out),hRa.below hbb.out hRa.lt,hpb.grg (g:=g) (aE.of hbb.out) (by omega),by rw [show w.heap.size+1=wa.heap.size from hsa.symm,←hwb];exact cK wa _ _ _ _ _ _,h.lt⟩)
 have hsa':wa.heap.size=w.heap.size+1:=hsa
 have hgb:=aa hRa
 clear hpb hca hfa hba hbb hsb f0 h hRa
 go_enter func191,ntmps191
 go_upto_region 6 with (go_at_call 192;refine (hI1.out _ hS0.out.rd).mono ?_;rintro e w1 ⟨rfl,hb1⟩)
 have hS1:=aa (hS0.out.below hb1)
 clear hb1 hS0 x0 x1 x2 x3 x4 x5 c0 k0 k1 k2 k3 k4 k5
 go_upto_region 7 with (go_at_call 194;refine (hN.out _ hS1.out.rd).mono ?_;rintro e w2 ⟨rfl,hG2,hR2⟩;obtain ⟨w3,hw3,hb3,hs3,hl3,u0,u1,u2,u3,u4,u5⟩:=bL w2 kd1 wd1 hi1 lo1 pl1 S1)
 have hS2:=hS1.out.step hG2 hR2
 have hS3:=aa (hS2.below hb3.out)
 have hT3:=aa (show eY w3 w2.heap.size kd1 S1 wd1 hi1 lo1 pl1 from by rw [←hw3];exact cK w2 _ _ _ _ _ _)
 have hr:g<w2.heap.size∧w.heap.size+2≤w2.heap.size:=⟨hS2.rd.lt,hS2.sz⟩
 generalize w2.heap.size=r at*
 clear hG2 hR2 hS1 hS2 hw3 hb3 hs3 u0 u1 u2 u3 u4 u5
 go_upto_region 15 with (go_at_call 192;refine (hI2.out _ hS3.out.rd).mono ?_;rintro e w4 ⟨rfl,hb4⟩)
 have hS4:=aa (hS3.out.below hb4)
 have hT4:=aa (hT3.out.grg (g:=g) (aE.of hb4) (by omega))
 clear hb4 hS3 hT3
 go_upto_region 23 with (go_at_call 192;refine (hI3.out _ hS4.out.rd).mono ?_;rintro e w5 ⟨rfl,hb5⟩)
 have hS5:=aa (hS4.out.below hb5)
 have hT5:=aa (hT4.out.grg (g:=g) (aE.of hb5) (by omega))
 clear hb5 hS4 hT4
 obtain ⟨x0,x1,x2,x3,x4,x5⟩:=hS5.out.fb.cells
 have hlf:=hS5.out.fb.lt
 go_upto_region 24 with (go_at_call 163;refine (hA.out _).mono ?_;rintro e w6 ⟨rfl,hb6⟩)
 have hS6:=aa (hS5.out.below hb6)
 have hT6:=aa (hT5.out.grg (g:=g) (aE.of hb6) (by omega))
 clear hb6 hS5 hlf x0 x1 x2 x3 x4 x5 hT5
 obtain ⟨x0,x1,x2,x3,x4,x5⟩:=hT6.out.cells
 have hlf:=hT6.out.lt
 go_upto_region 25 with (go_at_call 213;refine (hGo.out _).mono ?_;rintro e w7 ⟨rfl,hb7⟩)
 have hS7:=aa (hS6.out.below hb7)
 have hT7:=aa (hT6.out.grg (g:=g) (aE.of hb7) (by omega))
 clear hb7 hS6 hlf x0 x1 x2 x3 x4 x5 hT6
 obtain ⟨-,-,-,p03,p04,-⟩:=hT7.out.cells
 have hlp0:=hT7.out.lt
 go_upto_region 26 with (go_at_call 216;refine (hEx.out _).mono ?_;rintro e w8 ⟨rfl,hb8⟩;obtain ⟨w8',hw8',hsz8,hbx8,hcx8,-⟩:=af w8 #[.int .u64 X.vh,.int .u64 X.vl,.int .u64 X.mh,.int .u64 X.ml] 101)
 obtain ⟨q0,q1,q2,q3⟩:=ig hcx8
 have hS8:=aa ((hS7.out.below hb8).below hbx8)
 have hlq:w8.heap.size<w8'.heap.size:=by omega
 obtain ⟨z0,z1,z2,z3,g0,g1,g2,g3⟩:=hS8.out.bx.cells
 have hl3:=hS8.out.bx.lt
 have hwn:w.heap.size≠w8.heap.size:=by have:=hS7.out.sz;have:=hb8.size;omega
 have hnw:w8.heap.size≠w.heap.size:=Ne.symm hwn
 replace hsz8:=aa hsz8
 clear hcx8 hbx8 hb8 hS7 p03 p04 hlp0
 go_wp2
 obtain ⟨r1,r2⟩:=hS8.out.done (.int .u64 X.vh) (.int .u64 X.vl) (.int .u64 X.mh) (.int .u64 X.ml)
 refine bodyPost_ret (v:=.tuple #[.agg #[.int .u64 X.vh,.int .u64 X.vl,.int .u64 X.mh,.int .u64 X.ml],.int .i64 0]) (by simp [results,results191,go_sem,z0,z1,z2,z3]) rfl ⟨rfl,r1,r2⟩
end
section
attribute [local go_sem] run_panic_iface
theorem pw {w:World} {g:Nat} {l:List Tk} {V:Array Value} (kd y:Int) (h:bq w g l V) (hw:aj y=true) (h1:cD [95] l=false) (h2:(ag l).kind=2) (h3:cD [47] (ai l)=true) (h4:(ag (ai (ai l))).kind=2) (hk:kd=2) (hg1:eT (ag l) y=true) (hg2:qM (ag (ai (ai l))) y=true):
  Calls prog 191 #[.pointer (some ⟨g,0,none⟩),.int .u8 kd,.int .i64 y] w fun e w'=>e=.returned (.tuple #[CD (pV (ag l).n (dD (ag (ai (ai l))).n y.toNat)),.int .i64 ((ag (ai (ai l))).n:Int)])∧aE g w w'∧bq w' g (ai (ai (ai l))) V:=by
 have hI1:=aa (fun (W:World) (hW:bq W g (l) V)=>show Calls prog 192 #[.pointer (some ⟨g,0,none⟩),.string ⟨#[95]⟩] W fun e w'=>e=.returned (.bool false)∧Below W.heap.size W w' from by have hq0:=tB ⟨#[95]⟩ hW;rw [show cD (⟨#[95]⟩:ByteArray).data.toList (l)=false from h1] at hq0;exact hq0)
 have hI2:=aa (fun (W:World) (hW:bq W g (ai l) V)=>show Calls prog 192 #[.pointer (some ⟨g,0,none⟩),.string ⟨#[47]⟩] W fun e w'=>e=.returned (.bool true)∧Below W.heap.size W w' from by have hq0:=tB ⟨#[47]⟩ hW;rw [show cD (⟨#[47]⟩:ByteArray).data.toList (ai l)=true from h3] at hq0;exact hq0)
 have hN:=aa (fun (W:World) (hW:bq W g l V)=>fW hW h2)
 have hN2:=aa (fun (W:World) (hW:bq W g (ai (ai l)) V)=>fW hW h4)
 have hNx:=aa (fun (W:World) (hW:bq W g (ai l) V)=>iY hW)
 have hA:=aa (fun (W:World)=>bi (ag l) 9 W)
 have hn128:(ag l).n<2 ^ y.toNat:=fC hg1
 have hp128:=nY hw
 have hGo:=aa (fun (W:World)=>qX (ag l) y W hg1 (by omega))
 have hw':=(aC y).1 hw
 have hz2:(((ag (ai (ai l))).n:Nat):Int)≤y:=by unfold qM at hg2;rw [Hy,decide_eq_true_eq,decide_eq_true_eq] at hg2;exact hg2.2
 have hPl:=aa (fun (W:World)=>Af (ag (ai (ai l))) y W hg2 (by omega) (by omega))
 have ek:(kd==2)=true:=by rw [hk];rfl
 have hPf:=aa (fun (W:World)=>wI (ag l).n (ag (ai (ai l))).n y W hw hn128 hz2)
 unfold nA at hPf
 generalize pV (ag l).n (dD (ag (ai (ai l))).n y.toNat)=X at hPf ⊢
 clear hn128 hp128 hg1 hg2 h2 h4 hk hw' hz2
 generalize hhx:ag (ai l)=tx at hNx
 clear hhx
 obtain ⟨kdx,sx,wdx,mx,plx⟩:=tx
 unfold iF at hNx
 simp only at hNx
 generalize (⟨sx.toArray⟩:ByteArray)=SX at hNx
 generalize ((mx / 18446744073709551616:Nat):Int)=hix at hNx
 generalize ((mx % 18446744073709551616:Nat):Int)=lox at hNx
 generalize ag (ai (ai l))=t2 at hN2 hPl hPf ⊢
 obtain ⟨kd2,s2,wd2,m2,pl2⟩:=t2
 unfold iF at hN2 hPl
 simp only at hN2 hPl hPf ⊢
 generalize (⟨s2.toArray⟩:ByteArray)=S2 at hN2 hPl
 generalize hhi2:((m2 / 18446744073709551616:Nat):Int)=hi2 at hN2 hPl
 generalize hlo2:((m2 % 18446744073709551616:Nat):Int)=lo2 at hN2 hPl
 clear hhi2 hlo2
 generalize ((m2:Nat):Int)=L at hPl hPf ⊢
 have hG1:=h.lt
 obtain ⟨wa,hwa,hsa,hba,hca,hfa⟩:=af w #[.int .u64 0,.int .u64 0,.int .u64 0,.int .u64 0] 101
 have hpb:fy wa w.heap.size 0 0 0 0:=by rw [←hwa];exact heap_alloc_new w _
 have hRa:=h.below hba h.lt
 obtain ⟨b,o,cap,lt,bg,pos,le,ml,c0,f0,k0,k1,k2,k3,k4,k5⟩:=hRa.open_
 have lz:(0:Int)<(l.length:Int):=by omega
 have hbl:b<wa.heap.size:=by omega
 generalize ag l=t1 at k0 k1 k2 k3 k4 k5 hN hA hGo hPf
 obtain ⟨kd1,s1,wd1,m1,pl1⟩:=t1
 unfold iF at hN hA hGo
 simp only at k0 k1 k2 k3 k4 k5 hN hA hGo hPf
 generalize (⟨s1.toArray⟩:ByteArray)=S1 at k1 hN hA hGo
 generalize hhi1:((m1 / 18446744073709551616:Nat):Int)=hi1 at k3 hN hA hGo hPf
 generalize hlo1:((m1 % 18446744073709551616:Nat):Int)=lo1 at k4 hN hA hGo hPf
 clear hhi1 hlo1
 obtain ⟨wb,hwb,hbb,hsb,hlb,x0,x1,x2,x3,x4,x5⟩:=bL wa kd1 wd1 hi1 lo1 pl1 S1
 have hS0:=aa (show uV w wb g l V kd1 S1 wd1 hi1 lo1 pl1 from ⟨(aE.of hba).trans (aE.of hbb.out),hRa.below hbb.out hRa.lt,hpb.grg (g:=g) (aE.of hbb.out) (by omega),by rw [show w.heap.size+1=wa.heap.size from hsa.symm,←hwb];exact cK wa _ _ _ _ _ _,h.lt⟩)
 have hsa':wa.heap.size=w.heap.size+1:=hsa
 have hgb:=aa hRa
 clear hpb hca hfa hba hbb hsb f0 h hRa
 go_enter func191,ntmps191
 go_upto_region 6 with (go_at_call 192;refine (hI1.out _ hS0.out.rd).mono ?_;rintro e w1 ⟨rfl,hb1⟩)
 have hS1:=aa (hS0.out.below hb1)
 clear hb1 hS0 x0 x1 x2 x3 x4 x5 c0 k0 k1 k2 k3 k4 k5
 go_upto_region 7 with (go_at_call 194;refine (hN.out _ hS1.out.rd).mono ?_;rintro e w2 ⟨rfl,hG2,hR2⟩;obtain ⟨w3,hw3,hb3,hs3,hl3,u0,u1,u2,u3,u4,u5⟩:=bL w2 kd1 wd1 hi1 lo1 pl1 S1)
 have hS2:=hS1.out.step hG2 hR2
 have hS3:=aa (hS2.below hb3.out)
 have hT3:=aa (show eY w3 w2.heap.size kd1 S1 wd1 hi1 lo1 pl1 from by rw [←hw3];exact cK w2 _ _ _ _ _ _)
 have hr:g<w2.heap.size∧w.heap.size+2≤w2.heap.size:=⟨hS2.rd.lt,hS2.sz⟩
 generalize w2.heap.size=r at*
 clear hG2 hR2 hS1 hS2 hw3 hb3 hs3 u0 u1 u2 u3 u4 u5
 go_upto_region 8 with (go_at_call 192;refine (hI2.out _ hS3.out.rd).mono ?_;rintro e w4 ⟨rfl,hb4⟩)
 have hS4:=aa (hS3.out.below hb4)
 have hT4:=aa (hT3.out.grg (g:=g) (aE.of hb4) (by omega))
 clear hb4 hS3 hT3
 go_upto_region 9 with (go_at_call 187;refine (hNx.out _ hS4.out.rd).mono ?_;rintro e w5 ⟨rfl,hG5,hR5⟩)
 have hS5:=aa (hS4.out.step hG5 hR5)
 have hT5:=aa (hT4.out.grg hG5 (by omega))
 clear hG5 hR5 hS4 hT4
 go_upto_region 10 with (go_at_call 194;refine (hN2.out _ hS5.out.rd).mono ?_;rintro e w6 ⟨rfl,hG6,hR6⟩;obtain ⟨w7,hw7,hb7,hs7,hl7,u0,u1,u2,u3,u4,u5⟩:=bL w6 kd2 wd2 hi2 lo2 pl2 S2)
 have hS6:=hS5.out.step hG6 hR6
 have hS7:=aa (hS6.below hb7.out)
 have hT7:=aa ((hT5.out.grg hG6 (by omega)).grg (g:=g) (aE.of hb7.out) (by omega))
 have hU7:=aa (show eY w7 w6.heap.size kd2 S2 wd2 hi2 lo2 pl2 from by rw [←hw7];exact cK w6 _ _ _ _ _ _)
 have hr2:g<w6.heap.size∧w.heap.size+2≤w6.heap.size∧r<w6.heap.size:=⟨hS6.rd.lt,hS6.sz,(hT5.out.grg hG6 (by omega)).lt⟩
 generalize w6.heap.size=r2 at*
 clear hG6 hR6 hS5 hS6 hT5 hw7 hb7 hs7 u0 u1 u2 u3 u4 u5
 obtain ⟨x0,x1,x2,x3,x4,x5⟩:=hS7.out.fb.cells
 have hlf:=hS7.out.fb.lt
 go_upto_region 11 with (go_at_call 163;refine (hA.out _).mono ?_;rintro e w8 ⟨rfl,hb8⟩)
 have hS8:=aa (hS7.out.below hb8)
 have hT8:=aa (hT7.out.grg (g:=g) (aE.of hb8) (by omega))
 have hU8:=aa (hU7.out.grg (g:=g) (aE.of hb8) (by omega))
 clear hb8 hS7 hlf x0 x1 x2 x3 x4 x5 hT7 hU7
 obtain ⟨x0,x1,x2,x3,x4,x5⟩:=hT8.out.cells
 have hlf:=hT8.out.lt
 go_upto_region 12 with (go_at_call 213;refine (hGo.out _).mono ?_;rintro e w9 ⟨rfl,hb9⟩)
 have hS9:=aa (hS8.out.below hb9)
 have hT9:=aa (hT8.out.grg (g:=g) (aE.of hb9) (by omega))
 have hU9:=aa (hU8.out.grg (g:=g) (aE.of hb9) (by omega))
 clear hb9 hS8 hlf x0 x1 x2 x3 x4 x5 hT8 hU8
 obtain ⟨x0,x1,x2,x3,x4,x5⟩:=hU9.out.cells
 have hlf:=hU9.out.lt
 go_upto_region 13 with (go_at_call 193;refine (hPl.out _).mono ?_;rintro e w10 ⟨rfl,hb10⟩)
 have hS10:=aa (hS9.out.below hb10)
 have hT10:=aa (hT9.out.grg (g:=g) (aE.of hb10) (by omega))
 have hU10:=aa (hU9.out.grg (g:=g) (aE.of hb10) (by omega))
 clear hb10 hS9 hlf x0 x1 x2 x3 x4 x5 hT9 hU9
 obtain ⟨-,-,-,p03,p04,-⟩:=hT10.out.cells
 have hlp0:=hT10.out.lt
 go_upto_region 14 with (go_at_call 214;refine (hPf.out _).mono ?_;rintro e w11 ⟨rfl,hb11⟩;obtain ⟨w11',hw11',hsz11,hbx11,hcx11,-⟩:=af w11 #[.int .u64 X.vh,.int .u64 X.vl,.int .u64 X.mh,.int .u64 X.ml] 101)
 obtain ⟨q0,q1,q2,q3⟩:=ig hcx11
 have hS11:=aa ((hS10.out.below hb11).below hbx11)
 have hlq:w11.heap.size<w11'.heap.size:=by omega
 obtain ⟨z0,z1,z2,z3,g0,g1,g2,g3⟩:=hS11.out.bx.cells
 have hl3:=hS11.out.bx.lt
 have hwn:w.heap.size≠w11.heap.size:=by have:=hS10.out.sz;have:=hb11.size;omega
 have hnw:w11.heap.size≠w.heap.size:=Ne.symm hwn
 replace hsz11:=aa hsz11
 clear hcx11 hbx11 hb11 hS10 p03 p04 hlp0
 go_wp2
 obtain ⟨r1,r2⟩:=hS11.out.done (.int .u64 X.vh) (.int .u64 X.vl) (.int .u64 X.mh) (.int .u64 X.ml)
 refine bodyPost_ret (v:=.tuple #[.agg #[.int .u64 X.vh,.int .u64 X.vl,.int .u64 X.mh,.int .u64 X.ml],.int .i64 L]) (by simp [results,results191,go_sem,z0,z1,z2,z3]) rfl ⟨rfl,r1,r2⟩
theorem tC {w:World} {g:Nat} {l:List Tk} {V:Array Value} (kd y:Int) (h:bq w g l V) (hw:aj y=true) (h1:cD [95] l=false) (h2:(ag l).kind=2) (h3:cD [47] (ai l)=false) (h5:cD nW (ai l)=true) (h4:(ag (ai (ai l))).kind=2) (hk:kd=3) (hg1:eT (ag l) y=true) (hg2:eT (ag (ai (ai l))) y=true):
  Calls prog 191 #[.pointer (some ⟨g,0,none⟩),.int .u8 kd,.int .i64 y] w fun e w'=>e=.returned (.tuple #[CD (pV (ag l).n (ag (ai (ai l))).n),.int .i64 0])∧aE g w w'∧bq w' g (ai (ai (ai l))) V:=by
 have hI1:=aa (fun (W:World) (hW:bq W g (l) V)=>show Calls prog 192 #[.pointer (some ⟨g,0,none⟩),.string ⟨#[95]⟩] W fun e w'=>e=.returned (.bool false)∧Below W.heap.size W w' from by have hq0:=tB ⟨#[95]⟩ hW;rw [show cD (⟨#[95]⟩:ByteArray).data.toList (l)=false from h1] at hq0;exact hq0)
 have hI2:=aa (fun (W:World) (hW:bq W g (ai l) V)=>show Calls prog 192 #[.pointer (some ⟨g,0,none⟩),.string ⟨#[47]⟩] W fun e w'=>e=.returned (.bool false)∧Below W.heap.size W w' from by have hq0:=tB ⟨#[47]⟩ hW;rw [show cD (⟨#[47]⟩:ByteArray).data.toList (ai l)=false from h3] at hq0;exact hq0)
 have hI3:=aa (fun (W:World) (hW:bq W g (ai l) V)=>show Calls prog 192 #[.pointer (some ⟨g,0,none⟩),.string ⟨#[38,38,38]⟩] W fun e w'=>e=.returned (.bool true)∧Below W.heap.size W w' from by have hq0:=tB ⟨#[38,38,38]⟩ hW;rw [show cD (⟨#[38,38,38]⟩:ByteArray).data.toList (ai l)=true from h5] at hq0;exact hq0)
 have hN:=aa (fun (W:World) (hW:bq W g l V)=>fW hW h2)
 have hN2:=aa (fun (W:World) (hW:bq W g (ai (ai l)) V)=>fW hW h4)
 have hNx:=aa (fun (W:World) (hW:bq W g (ai l) V)=>iY hW)
 have hA:=aa (fun (W:World)=>bi (ag l) 9 W)
 have hn128:(ag l).n<2 ^ y.toNat:=fC hg1
 have hp128:=nY hw
 have hGo:=aa (fun (W:World)=>qX (ag l) y W hg1 (by omega))
 have hm128:(ag (ai (ai l))).n<2 ^ y.toNat:=fC hg2
 have hGo2:=aa (fun (W:World)=>qX (ag (ai (ai l))) y W hg2 (by omega))
 have ek:(kd==3)=true:=by rw [hk];rfl
 have hMs:=aa (fun (W:World)=>wH (ag l).n (ag (ai (ai l))).n y W hw hn128 hm128)
 unfold nA at hMs
 generalize pV (ag l).n (ag (ai (ai l))).n=X at hMs ⊢
 clear hn128 hp128 hg1 hg2 h2 h4 hk hm128
 generalize hhx:ag (ai l)=tx at hNx
 clear hhx
 obtain ⟨kdx,sx,wdx,mx,plx⟩:=tx
 unfold iF at hNx
 simp only at hNx
 generalize (⟨sx.toArray⟩:ByteArray)=SX at hNx
 generalize ((mx / 18446744073709551616:Nat):Int)=hix at hNx
 generalize ((mx % 18446744073709551616:Nat):Int)=lox at hNx
 generalize ag (ai (ai l))=t2 at hN2 hGo2 hMs
 obtain ⟨kd2,s2,wd2,m2,pl2⟩:=t2
 unfold iF at hN2 hGo2
 simp only at hN2 hGo2 hMs
 generalize (⟨s2.toArray⟩:ByteArray)=S2 at hN2 hGo2
 generalize hhi2:((m2 / 18446744073709551616:Nat):Int)=hi2 at hN2 hGo2 hMs
 generalize hlo2:((m2 % 18446744073709551616:Nat):Int)=lo2 at hN2 hGo2 hMs
 clear hhi2 hlo2
 have hG1:=h.lt
 obtain ⟨wa,hwa,hsa,hba,hca,hfa⟩:=af w #[.int .u64 0,.int .u64 0,.int .u64 0,.int .u64 0] 101
 have hpb:fy wa w.heap.size 0 0 0 0:=by rw [←hwa];exact heap_alloc_new w _
 have hRa:=h.below hba h.lt
 obtain ⟨b,o,cap,lt,bg,pos,le,ml,c0,f0,k0,k1,k2,k3,k4,k5⟩:=hRa.open_
 have lz:(0:Int)<(l.length:Int):=by omega
 have hbl:b<wa.heap.size:=by omega
 generalize ag l=t1 at k0 k1 k2 k3 k4 k5 hN hA hGo hMs
 obtain ⟨kd1,s1,wd1,m1,pl1⟩:=t1
 unfold iF at hN hA hGo
 simp only at k0 k1 k2 k3 k4 k5 hN hA hGo hMs
 generalize (⟨s1.toArray⟩:ByteArray)=S1 at k1 hN hA hGo
 generalize hhi1:((m1 / 18446744073709551616:Nat):Int)=hi1 at k3 hN hA hGo hMs
 generalize hlo1:((m1 % 18446744073709551616:Nat):Int)=lo1 at k4 hN hA hGo hMs
 clear hhi1 hlo1
 obtain ⟨wb,hwb,hbb,hsb,hlb,x0,x1,x2,x3,x4,x5⟩:=bL wa kd1 wd1 hi1 lo1 pl1 S1
 have hS0:=aa (show uV w wb g l V kd1 S1 wd1 hi1 lo1 pl1 from ⟨(aE.of hba).trans (aE.of hbb.out),hRa.below hbb.out hRa.lt,hpb.grg (g:=g) (aE.of hbb.out) (by omega),by rw [show w.heap.size+1=wa.heap.size from hsa.symm,←hwb];exact cK wa _ _ _ _ _ _,h.lt⟩)
 have hsa':wa.heap.size=w.heap.size+1:=hsa
 have hgb:=aa hRa
 clear hpb hca hfa hba hbb hsb f0 h hRa
 go_enter func191,ntmps191
 go_upto_region 6 with (go_at_call 192;refine (hI1.out _ hS0.out.rd).mono ?_;rintro e w1 ⟨rfl,hb1⟩)
 have hS1:=aa (hS0.out.below hb1)
 clear hb1 hS0 x0 x1 x2 x3 x4 x5 c0 k0 k1 k2 k3 k4 k5
 go_upto_region 7 with (go_at_call 194;refine (hN.out _ hS1.out.rd).mono ?_;rintro e w2 ⟨rfl,hG2,hR2⟩;obtain ⟨w3,hw3,hb3,hs3,hl3,u0,u1,u2,u3,u4,u5⟩:=bL w2 kd1 wd1 hi1 lo1 pl1 S1)
 have hS2:=hS1.out.step hG2 hR2
 have hS3:=aa (hS2.below hb3.out)
 have hT3:=aa (show eY w3 w2.heap.size kd1 S1 wd1 hi1 lo1 pl1 from by rw [←hw3];exact cK w2 _ _ _ _ _ _)
 have hr:g<w2.heap.size∧w.heap.size+2≤w2.heap.size:=⟨hS2.rd.lt,hS2.sz⟩
 generalize w2.heap.size=r at*
 clear hG2 hR2 hS1 hS2 hw3 hb3 hs3 u0 u1 u2 u3 u4 u5
 go_upto_region 15 with (go_at_call 192;refine (hI2.out _ hS3.out.rd).mono ?_;rintro e w4 ⟨rfl,hb4⟩)
 have hS4:=aa (hS3.out.below hb4)
 have hT4:=aa (hT3.out.grg (g:=g) (aE.of hb4) (by omega))
 clear hb4 hS3 hT3
 go_upto_region 16 with (go_at_call 192;refine (hI3.out _ hS4.out.rd).mono ?_;rintro e w5 ⟨rfl,hb5⟩)
 have hS5:=aa (hS4.out.below hb5)
 have hT5:=aa (hT4.out.grg (g:=g) (aE.of hb5) (by omega))
 clear hb5 hS4 hT4
 go_upto_region 17 with (go_at_call 187;refine (hNx.out _ hS5.out.rd).mono ?_;rintro e w6 ⟨rfl,hG6,hR6⟩)
 have hS6:=aa (hS5.out.step hG6 hR6)
 have hT6:=aa (hT5.out.grg hG6 (by omega))
 clear hG6 hR6 hS5 hT5
 go_upto_region 18 with (go_at_call 194;refine (hN2.out _ hS6.out.rd).mono ?_;rintro e w7 ⟨rfl,hG7,hR7⟩;obtain ⟨w8,hw8,hb8,hs8,hl8,u0,u1,u2,u3,u4,u5⟩:=bL w7 kd2 wd2 hi2 lo2 pl2 S2)
 have hS7:=hS6.out.step hG7 hR7
 have hS8:=aa (hS7.below hb8.out)
 have hT8:=aa ((hT6.out.grg hG7 (by omega)).grg (g:=g) (aE.of hb8.out) (by omega))
 have hU8:=aa (show eY w8 w7.heap.size kd2 S2 wd2 hi2 lo2 pl2 from by rw [←hw8];exact cK w7 _ _ _ _ _ _)
 have hr2:g<w7.heap.size∧w.heap.size+2≤w7.heap.size∧r<w7.heap.size:=⟨hS7.rd.lt,hS7.sz,(hT6.out.grg hG7 (by omega)).lt⟩
 generalize w7.heap.size=r2 at*
 clear hG7 hR7 hS6 hS7 hT6 hw8 hb8 hs8 u0 u1 u2 u3 u4 u5
 obtain ⟨x0,x1,x2,x3,x4,x5⟩:=hS8.out.fb.cells
 have hlf:=hS8.out.fb.lt
 go_upto_region 19 with (go_at_call 163;refine (hA.out _).mono ?_;rintro e w9 ⟨rfl,hb9⟩)
 have hS9:=aa (hS8.out.below hb9)
 have hT9:=aa (hT8.out.grg (g:=g) (aE.of hb9) (by omega))
 have hU9:=aa (hU8.out.grg (g:=g) (aE.of hb9) (by omega))
 clear hb9 hS8 hlf x0 x1 x2 x3 x4 x5 hT8 hU8
 obtain ⟨x0,x1,x2,x3,x4,x5⟩:=hT9.out.cells
 have hlf:=hT9.out.lt
 go_upto_region 20 with (go_at_call 213;refine (hGo.out _).mono ?_;rintro e w10 ⟨rfl,hb10⟩)
 have hS10:=aa (hS9.out.below hb10)
 have hT10:=aa (hT9.out.grg (g:=g) (aE.of hb10) (by omega))
 have hU10:=aa (hU9.out.grg (g:=g) (aE.of hb10) (by omega))
 clear hb10 hS9 hlf x0 x1 x2 x3 x4 x5 hT9 hU9
 obtain ⟨x0,x1,x2,x3,x4,x5⟩:=hU10.out.cells
 have hlf:=hU10.out.lt
 go_upto_region 21 with (go_at_call 213;refine (hGo2.out _).mono ?_;rintro e w11 ⟨rfl,hb11⟩)
 have hS11:=aa (hS10.out.below hb11)
 have hT11:=aa (hT10.out.grg (g:=g) (aE.of hb11) (by omega))
 have hU11:=aa (hU10.out.grg (g:=g) (aE.of hb11) (by omega))
 clear hb11 hS10 hlf x0 x1 x2 x3 x4 x5 hT10 hU10
 obtain ⟨-,-,-,p03,p04,-⟩:=hT11.out.cells
 have hlp0:=hT11.out.lt
 obtain ⟨-,-,-,p13,p14,-⟩:=hU11.out.cells
 have hlp1:=hU11.out.lt
 go_upto_region 22 with (go_at_call 215;refine (hMs.out _).mono ?_;rintro e w12 ⟨rfl,hb12⟩;obtain ⟨w12',hw12',hsz12,hbx12,hcx12,-⟩:=af w12 #[.int .u64 X.vh,.int .u64 X.vl,.int .u64 X.mh,.int .u64 X.ml] 101)
 obtain ⟨q0,q1,q2,q3⟩:=ig hcx12
 have hS12:=aa ((hS11.out.below hb12).below hbx12)
 have hlq:w12.heap.size<w12'.heap.size:=by omega
 obtain ⟨z0,z1,z2,z3,g0,g1,g2,g3⟩:=hS12.out.bx.cells
 have hl3:=hS12.out.bx.lt
 have hwn:w.heap.size≠w12.heap.size:=by have:=hS11.out.sz;have:=hb12.size;omega
 have hnw:w12.heap.size≠w.heap.size:=Ne.symm hwn
 replace hsz12:=aa hsz12
 clear hcx12 hbx12 hb12 hS11 p03 p04 hlp0 p13 p14 hlp1
 go_wp2
 obtain ⟨r1,r2⟩:=hS12.out.done (.int .u64 X.vh) (.int .u64 X.vl) (.int .u64 X.mh) (.int .u64 X.ml)
 refine bodyPost_ret (v:=.tuple #[.agg #[.int .u64 X.vh,.int .u64 X.vl,.int .u64 X.mh,.int .u64 X.ml],.int .i64 0]) (by simp [results,results191,go_sem,z0,z1,z2,z3]) rfl ⟨rfl,r1,r2⟩
theorem EX {w:World} {g:Nat} {l l':List Tk} {V:Array Value} {kd y len:Int} {x:Pt} (h:bq w g l V) (hw:aj y=true) (ho:pu kd y l=some (x,len,l')):
  Calls prog 191 #[.pointer (some ⟨g,0,none⟩),.int .u8 kd,.int .i64 y] w fun e w'=>e=.returned (.tuple #[CD x,.int .i64 len])∧aE g w w'∧bq w' g l' V:=by
 unfold pu nn at ho
 by_cases h1:cD [95] l=true
 ·rw [if_pos h1] at ho
  by_cases hk:kd=1
  ·rw [if_pos hk] at ho;cases ho
  ·rw [if_neg hk] at ho
   cases ho
   exact wV kd y h h1 hk
 ·rw [if_neg h1] at ho
  replace h1:=Bool.eq_false_iff.2 h1
  by_cases h2:(ag l).kind=2
  ·rw [if_pos h2] at ho
   simp only [HP] at ho
   by_cases h3:cD [47] (ai l)=true
   ·rw [if_pos h3] at ho
    by_cases h4:(ag (ai (ai l))).kind=2
    ·rw [if_pos h4] at ho
     simp only [HP] at ho
     split at ho
     ·rename_i hc
      cases ho
      exact pw kd y h hw h1 h2 h3 h4 hc.1 hc.2.1 hc.2.2
     ·cases ho
    ·rw [if_neg h4] at ho;cases ho
   ·rw [if_neg h3] at ho
    replace h3:=Bool.eq_false_iff.2 h3
    by_cases h5:cD nW (ai l)=true
    ·rw [if_pos h5] at ho
     by_cases h4:(ag (ai (ai l))).kind=2
     ·rw [if_pos h4] at ho
      simp only [HP] at ho
      split at ho
      ·rename_i hc
       cases ho
       exact tC kd y h hw h1 h2 h3 h5 h4 hc.1 hc.2.1 hc.2.2
      ·cases ho
     ·rw [if_neg h4] at ho;cases ho
    ·rw [if_neg h5] at ho
     replace h5:=Bool.eq_false_iff.2 h5
     split at ho
     ·rename_i hc
      cases ho
      exact qY kd y h hw h1 h2 h3 h5 hc.1 hc.2
     ·cases ho
  ·rw [if_neg h2] at ho;cases ho
end
theorem bd {w w':World} {base g k n:Nat} {e:TypeId} {v:Value} {xs:List Value} (h:w.ownsRow base e k v n xs) (hG:aE g w w') (hg:g<base):w'.ownsRow base e k v n xs:=by
 refine ⟨h.1,?_⟩
 rcases h.2 with h2|⟨b,cap,cur,rfl,hb,hh,r⟩
 ·exact .inl h2
 ·exact .inr ⟨b,cap,cur,rfl,hb,(hG.block b (h.lt b rfl).2 (by simp;omega)).trans hh,r⟩
theorem aR {w:World} {base size n:Nat} {e:TypeId} {v:Value} {xs:List Value} (h:w.ownsRow base e size v n xs):∃ A cap,v=.slice A n cap:=by
 rcases h.2 with ⟨rfl,hz⟩|⟨g,cap,cur,rfl,_⟩
 ·exact ⟨none,0,by rw [hz]⟩
 ·exact ⟨_,_,rfl⟩
theorem cM {w:World} {base base' size n:Nat} {e:TypeId} {v:Value} {xs:List Value} (h:w.ownsRow base e size v n xs) (hb:base'≤base):w.ownsRow base' e size v n xs:=by
 refine ⟨h.1,?_⟩
 rcases h.2 with h2|⟨b,cap,cur,h0,hbb,r⟩
 ·exact .inl h2
 ·exact .inr ⟨b,cap,cur,h0,Hw hb hbb,r⟩
theorem eU {α:Type} {f:α→List Value} {e t:TypeId} {k bytes:Nat} {z:Value} (ht:prog.underlying t=some (.slice e)) (hi:(prog.info? e).map (fun i=>(i.zero,i.size,i.bytes))=some (some z,k,bytes)) (hzc:z.cells.size=k) (hk0:0<k) (hf:∀ x,(f x).length=k) (h1:∀ x,∀ u∈f x,u.oneCell'=true)
  {W:World} {base:Nat} {v:Value} {l:List α} (x:α) (hd:W.ownsRow base e k v l.length (l.flatMap f)) (hb:base≤W.heap.size) (hz:l.length<100000) (hby:bytes≤1000):
  ∃ v' w',(eh #[t,t] t #[v,.slice (some ⟨W.heap.size,0,none⟩) 1 1]).run prog (W.alloc (.cells (f x).toArray e))=.ok v' w'∧w'.ownsRow base e k v' (l++ [x]).length ((l++ [x]).flatMap f)∧(W.alloc (.cells (f x).toArray e)).grownBy w' v.ownBlock∧Below base W w'∧(v'.ownBlock=v.ownBlock∨v'.ownBlock=some (W.heap.size+1)):=by
 obtain ⟨ii,hii,hzi0,hzi1,hzi2⟩:=info_parts hi
 obtain ⟨v',w',hrun,h2,h3,_,h5⟩:=run_append_own_at (P:=prog) (W.alloc (.cells (f x).toArray e)) base t t e ii z k bytes ht hii hzi0 hzi1 hzi2 hzc hk0 v l.length _ (World.ownsRow.alloc hd _) ⟨W.heap.size,0,none⟩ 1 1 (f x) (by rw [hf,Nat.one_mul]) (World.news_of_block (cs:=(f x).toArray) (t:=e) (fr:=(0,0)) (heap_alloc_new W _)) (h1 x) (by simp [maxLen];omega) (by have:=Nat.mul_le_mul (show l.length+1≤100000 by omega) hby;omega) (by simp;omega)
 exact ⟨v',w',hrun,by simpa using h2,h3,((Hs _ _).alloc hb _).grown h3 (by simp;omega) (fun g e=>(hd.lt g e).1),by simpa using h5⟩
theorem wW:(prog.info? 96).map (fun i=>(i.zero,i.size,i.bytes))=some (some (.agg #[.int .u64 0,.int .u64 0]),2,16):=by kernel_rfl
theorem wX:(prog.info? 101).map (fun i=>(i.zero,i.size,i.bytes))=some (some (.agg #[.int .u64 0,.int .u64 0,.int .u64 0,.int .u64 0]),4,32):=by kernel_rfl
theorem wY:(prog.info? 3).map (fun i=>(i.zero,i.size,i.bytes))=some (some (.int .i64 0),1,8):=by kernel_rfl
theorem eA:(prog.info? 49).map (fun i=>(i.zero,i.size,i.bytes))=some (some (.agg #[.int .i64 0,.slice none 0 0,.int .i64 0,.int .i64 0,.int .i64 0,.slice none 0 0]),6,80):=by kernel_rfl
def FJ (x:Int×Int):List Value:= [.int .u64 x.1,.int .u64 x.2]
def FK (x:Pt):List Value:= [.int .u64 x.vh,.int .u64 x.vl,.int .u64 x.mh,.int .u64 x.ml]
def EK (x:Int):List Value:= [.int .i64 x]
def FW (x:ByteArray):List Value:= [.string x]
def nr (w:World) (base:Nat) (v:Value) (l:List (Int×Int)):Prop:=(∀ x∈l,aW x.1∧aW x.2)∧w.ownsRow base 96 2 v l.length (l.flatMap FJ)
def Ag (w:World) (base:Nat) (v:Value) (l:List Pt):Prop:=(∀ x∈l,fT x)∧w.ownsRow base 101 4 v l.length (l.flatMap FK)
def oh (w:World) (base:Nat) (v:Value) (l:List Int):Prop:=w.ownsRow base 3 1 v l.length (l.flatMap EK)
def EY (w:World) (base:Nat) (v:Value) (l:List ByteArray):Prop:=w.ownsRow base 9 1 v l.length (l.flatMap FW)
theorem nr.sl {w:World} {base:Nat} {v:Value} {l:List (Int×Int)} (h:nr w base v l):∃ A cap,v=.slice A l.length cap∧Sl 2 f8 w w.heap.size A l:=fK (f:=FJ) (fun _=>rfl) (fun x hx=>⟨rfl,h.1 x hx⟩) h.2
theorem Ag.sl {w:World} {base:Nat} {v:Value} {l:List Pt} (h:Ag w base v l):∃ A cap,v=.slice A l.length cap∧Sl 4 gT w w.heap.size A l:=fK (f:=FK) (fun _=>rfl) (fun x hx=>⟨rfl,h.1 x hx⟩) h.2
theorem oh.sl {w:World} {base:Nat} {v:Value} {l:List Int} (h:oh w base v l):∃ A cap,v=.slice A l.length cap∧Sl 1 bc w w.heap.size A l:=fK (f:=EK) (fun _=>rfl) (fun x hx=>rfl) h
theorem wZ {W:World} {base:Nat} {v:Value} {l:List (Int×Int)} (x:Int×Int) (hx:aW x.1∧aW x.2) (hd:nr W base v l) (hb:base≤W.heap.size) (hz:l.length<100000):
  ∃ v' w',(eh #[45,45] 45 #[v,.slice (some ⟨W.heap.size,0,none⟩) 1 1]).run prog (W.alloc (.cells #[.int .u64 x.1,.int .u64 x.2] 96))=.ok v' w'∧nr w' base v' (l++ [x])∧Below base W w':=by
 obtain ⟨v',w',h1,h2,-,h4,-⟩:=eU (f:=FJ) underlying45 wW rfl (by decide) (fun _=>rfl) (fun x u hu=>by simp [FJ] at hu;rcases hu with rfl|rfl<;>rfl) x hd.2 hb hz (by decide)
 exact ⟨v',w',h1,⟨fun y hy=>by
  rcases HZ.1 hy with hy|hy
  ·exact hd.1 y hy
  ·rw [List.mem_singleton] at hy;rw [hy];exact hx,h2⟩,h4⟩
theorem xc {W:World} {base:Nat} {v:Value} {l:List Int} (x:Int) (hd:oh W base v l) (hb:base≤W.heap.size) (hz:l.length<100000):
  ∃ v' w',(eh #[23,23] 23 #[v,.slice (some ⟨W.heap.size,0,none⟩) 1 1]).run prog (W.alloc (.cells #[.int .i64 x] 3))=.ok v' w'∧oh w' base v' (l++ [x])∧Below base W w':=by
 obtain ⟨v',w',h1,h2,-,h4,-⟩:=eU (f:=EK) underlying23 wY rfl (by decide) (fun _=>rfl) (fun x u hu=>by simp [EK] at hu;rw [hu];rfl) x hd hb hz (by decide)
 exact ⟨v',w',h1,h2,h4⟩
def qZ (g:Nat) (W:World):Nat:=match W.cell? ⟨g,13,none⟩ with
 |some (.slice _ n _)=>n
 |_=>0
theorem bq.left {w:World} {g:Nat} {l:List Tk} {V:Array Value} (h:bq w g l V):qZ g w=l.length:=by
 obtain ⟨b,o,cap,hO⟩:=h.open_
 unfold qZ
 rw [hO.c0]
theorem xd {x:List UInt8} {l:List Tk} (h:cD x l=true):(ag l).kind≠0:=by
 unfold cD at h
 rw [Hy] at h
 intro e
 rw [e] at h
 simp at h
theorem EZ (n:Nat) (h:n<2 ^ 128):aW (Dx n).1∧aW (Dx n).2:=cX h
section
open Go.Lib
theorem Ah {w k n m:Int} {x:Pt} (h:lF w k x n=some m):m=if k=2 then (j9 w x).1 else n:=by
 unfold lF at h
 split at h
 ·cases h
 ·split at h
  ·cases h
  ·split at h
   ·cases h
   ·split at h<;>rename_i hk<;>cases h
    ·rw [if_pos hk]
    ·rw [if_neg hk]
end
section
open Go.Lib
theorem tD {α:Type} {l:List α} {i:Int} {x:α} (h:eC l i=some x):0≤i∧∃ h:i.toNat<l.length,l[i.toNat]=x:=by
 unfold eC at h
 split at h
 ·rename_i h0
  obtain ⟨a,b⟩:=H1.1 h
  exact ⟨h0,a,b⟩
 ·cases h
structure Dy (p:Lp) (e:aA) (t:fJ) (a:sM):Prop where
 ht:eC p.tabs e.tab=some t
 ha:eC p.acts e.run.act=some a
 tl:e.tab.toNat<p.nt.length∧0≤e.tab
 al:e.run.act.toNat<p.na.length∧0≤e.run.act
 pr:0≤e.prio∧e.prio≤65536
 pk:e.pats.length=t.keys.length
 k0:e.pats≠ []
 kk:t.kinds.length=t.keys.length
 kb:∀ i,i<t.keys.length→dS (im t i)=true
 pf:gk t.kinds≤1
 mem:e.run.act∈t.acts
 al2:e.run.args.length=a.params.length
 fit:∀ j (hj:j<e.run.args.length),bJ (a.params.getD j 0) e.run.args[j].1 e.run.args[j].2=true
 fld:dn (fun i x n=>lF (qp p t i) (im t i) x n) 0 e.pats 0=some e.len
theorem jC {p:Lp} {t:fJ} (h:ij p t=true):1≤t.keys.length∧t.keys.length≤4∧t.kinds.length=t.keys.length∧(∀ i,i<t.keys.length→dS (im t i)=true)∧gk t.kinds≤1:=by
 unfold ij at h
 simp only [Hy,decide_eq_true_eq,Bool.not_eq_true',decide_eq_false_iff_not] at h
 obtain ⟨⟨⟨⟨⟨⟨⟨⟨⟨-,h4⟩,h0⟩,hk⟩,hkb⟩,hpf⟩,-⟩,-⟩,-⟩,-⟩:=h
 refine ⟨by omega,h4,hk,fun i hi=> ?_,hpf⟩
 have:=(aY _ _).1 hkb i (by omega)
 rw [am _ (show i<t.kinds.length by omega)] at this
 unfold im
 rw [Iq,HA (by omega)]
 exact this
theorem fX {p:Lp} (h:bR p=true):p.na.length=p.acts.length∧p.nt.length=p.tabs.length∧∀ t∈p.tabs,ij p t=true:=by
 unfold bR at h
 simp only [Hy] at h
 obtain ⟨⟨⟨⟨⟨⟨⟨-,hnm⟩,-⟩,-⟩,-⟩,-⟩,htb⟩,-⟩:=h
 unfold gl at hnm
 simp only [Hy,decide_eq_true_eq] at hnm
 exact ⟨hnm.1.2,hnm.2,HT.1 htb⟩
theorem Ai {w:Int} {x:Pt}:0≤(j9 w x).1∧(j9 w x).1≤128:=by
 unfold j9 m9
 split
 ·rename_i hm
  unfold eI at hm
  rw [Hy,aC] at hm
  cases hl:qo w.toNat (nv x.mh x.ml) with
  |none=>exact ⟨by decide,by decide⟩
  |some n=>
   have:=(dg.1 hl).1
   simp only
   omega
 ·exact ⟨by decide,by decide⟩
theorem om {kw kd:Nat→Int}:∀ (xs:List Pt) (i:Nat) (n L:Int),dn (fun i x n=>lF (kw i) (kd i) x n) i xs n=some L→0≤n∧n≤128→0≤L∧L≤128
 | [],_,_,_,h,hn=>by cases h;exact hn
 |x::l,i,n,L,h,hn=>by
  rw [dn] at h
  cases hs:lF (kw i) (kd i) x n with
  |none=>rw [hs] at h;cases h
  |some m=>
   rw [hs] at h
   refine om l (i+1) m L h ?_
   rw [Ah hs]
   split
   ·exact Ai
   ·exact hn
theorem Dy.len {p:Lp} {e:aA} {t:fJ} {a:sM} (h:Dy p e t a):0≤e.len∧e.len≤128:=om _ _ _ _ h.fld ⟨by decide,by decide⟩
end
section
open Go.RowKit Go.Lib
theorem EY.below {w w':World} {base C:Nat} {v:Value} {l:List ByteArray} (h:EY w base v l) (hb:Below C w w') (hC:w.heap.size≤C):EY w' base v l:=dO h hb hC
theorem EY.form {w:World} {base:Nat} {v:Value} {l:List ByteArray} (h:EY w base v l):∃ A c,v=.slice A l.length c:=aR h
end
def FX (v:Value):Prop:=∃ A1 n1 c1 A2 n2 c2 A3 n3 c3 i A4 n4 c4,v=.agg #[.slice A1 n1 c1,.slice A2 n2 c2,.slice A3 n3 c3,.int .i64 i,.slice A4 n4 c4]
theorem Aj (A:Option Addr) (cap:Nat) (xs:List fJ) (i:Int) (w:World) (h:Sl 5 oX w w.heap.size A xs):
  Calls prog 130 #[.slice A xs.length cap,.int .i64 i] w fun e w'=>∃ v,(FX v∧e=.returned (.tuple #[v,.bool (dC xs.length i)]))∧Below w.heap.size w w':=by
 have hl:=h.len
 go_enter func130,ntmps130
 by_cases h0:i<0
 ·have e2:=aa (bS (n:=xs.length) (i:=i) (by omega))
  go_wp2
  refine bodyPost_ret (v:=.tuple #[.agg #[.slice none 0 0,.slice none 0 0,.slice none 0 0,.int .i64 0,.slice none 0 0],.bool false]) (by simp [results,results130,go_sem]) rfl ?_
  exact ⟨_,⟨⟨none,0,0,none,0,0,none,0,0,0,none,0,0,rfl⟩,by rw [e2.out]⟩,(Hs _ _).alloc (Ht _) _⟩
 ·by_cases h1:(xs.length:Int)≤i
  ·have e2:=aa (bS (n:=xs.length) (i:=i) (by omega))
   go_wp2
   refine bodyPost_ret (v:=.tuple #[.agg #[.slice none 0 0,.slice none 0 0,.slice none 0 0,.int .i64 0,.slice none 0 0],.bool false]) (by simp [results,results130,go_sem]) rfl ?_
   exact ⟨⟨_,⟨none,0,0,none,0,0,none,0,0,0,none,0,0,rfl⟩,by rw [e2.out]⟩,(Hs _ _).alloc (Ht _) _⟩
  ·obtain ⟨k,rfl,hk⟩:=fQ h0 h1
   have e2:=aa (eF hk)
   obtain ⟨b,o,ecs,rfl,hb,hn,hcell,A1,A2,A3,A4,c1,c2,c3,c4,rfl,-⟩:=h.2 k _ (HA hk)
   have x0:w.cell? ⟨b,o+k*5,none⟩=some (.slice A1 xs[k].keys.length c1):=hcell 0 _ rfl
   have x1:w.cell? ⟨b,o+k*5+1,none⟩=some (.slice A2 xs[k].kinds.length c2):=hcell 1 _ rfl
   have x2:w.cell? ⟨b,o+k*5+2,none⟩=some (.slice A3 xs[k].acts.length c3):=hcell 2 _ rfl
   have x3:w.cell? ⟨b,o+k*5+3,none⟩=some (.int .i64 xs[k].run.act):=hcell 3 _ rfl
   have x4:w.cell? ⟨b,o+k*5+4,none⟩=some (.slice A4 xs[k].run.args.length c4):=hcell 4 _ rfl
   have hki:(k:Int)<(xs.length:Int):=by omega
   clear h hcell hn
   go_wp2
   refine bodyPost_ret (v:=.tuple #[.agg #[.slice A1 xs[k].keys.length c1,.slice A2 xs[k].kinds.length c2,.slice A3 xs[k].acts.length c3,.int .i64 xs[k].run.act,.slice A4 xs[k].run.args.length c4],.bool true]) (by simp [results,results130,go_sem]) rfl ?_
   exact ⟨⟨_,⟨A1,_,c1,A2,_,c2,A3,_,c3,_,A4,_,c4,rfl⟩,by rw [e2.out]⟩,(Hs _ _).alloc (Ht _) _⟩
theorem tE (A1 A2 A3 A4 A5 A6 A7 A8 A9 A10 A11 A12:Option Addr) (p:Lp) (c1 c2 c3 c4 c5 c6 c7 c8 c9 c10 c11 c12:Nat) (x:mW) (A':Option Addr) (c':Nat) (w:World) (h:cz w w.heap.size A1 A2 A3 A4 A5 A6 A7 A8 A9 A10 A11 A12 p):
  Calls prog 86 #[.agg (aO A1 A2 A3 A4 A5 A6 A7 A8 A9 A10 A11 A12 p c1 c2 c3 c4 c5 c6 c7 c8 c9 c10 c11 c12),.agg #[.int .u8 x.kind,.int .i64 x.a,.int .i64 x.b,.slice A' x.e.length c',.int .i64 x.to]] w fun e w'=>e=.returned (.tuple #[.int .i64 (fO p x).1,.bool (fO p x).2])∧Below w.heap.size w w':=by
 unfold aO
 obtain ⟨kd,a,b,ec,tt⟩:=x
 simp only
 obtain ⟨wz,hwz,hsz,hbz,hcz,-⟩:=af w (aO A1 A2 A3 A4 A5 A6 A7 A8 A9 A10 A11 A12 p c1 c2 c3 c4 c5 c6 c7 c8 c9 c10 c11 c12) 33
 obtain ⟨wa,hwa,hsa,hba,hca,-⟩:=af wz #[.int .u8 kd,.int .i64 a,.int .i64 b,.slice A' ec.length c',.int .i64 tt] 123
 have Y:=fun i=>(bj hba w.heap.size i (by omega)).trans (hcz i)
 have y0:=Y 0
 have y1:=Y 1
 have y4:=Y 4
 simp only [HB,HC,HD] at y0 y1 y4
 rw [hsz] at hca
 have x0:wa.cell? ⟨w.heap.size+1,0,none⟩=some (.int .u8 kd):=hca 0
 have x1:wa.cell? ⟨w.heap.size+1,1,none⟩=some (.int .i64 a):=hca 1
 have x2:wa.cell? ⟨w.heap.size+1,2,none⟩=some (.int .i64 b):=hca 2
 have hl1:w.heap.size<wa.heap.size:=by omega
 have hl2:w.heap.size+1<wa.heap.size:=by omega
 have hw:Below w.heap.size w wa:=hbz.trans (hba.mono (by omega))
 have hS:=(h.below hw).more hw.size
 have hA1:=aa hS.heads
 have hA2:=aa hS.metas
 have hA5:=aa hS.tabs
 have hwd:=aa (fun m=>hw.trans (au ((Hs wa.heap.size wa).mono hw.size) m))
 replace hw:=aa hw
 replace hsa:=aa hsa
 clear hca hcz hba hbz h hS Y
 go_enter func86,ntmps86
 by_cases k1:kd=1
 focus
  subst k1
  have hv:=aa (show fO p ⟨1,a,b,ec,tt⟩=(pS ((eC p.heads a).getD []) b,dC ((eC p.heads a).getD []).length b) from rfl)
  go_wp2_with (first|(go_at_call 128;refine (kE _ _ _ _ _ hA1.out).mono ?_;rintro e w' ⟨A',c',rfl,hs,rfl⟩)|(go_at_call 129;refine (iO _ _ _ _ _ hs).mono ?_;rintro e w' ⟨rfl,rfl⟩))
  exact bodyPost_ret (results_tmp2 rfl _ _ _) rfl ⟨by rw [hv.out]<;>rfl,hw.out⟩
 rotate_right
 focus
  by_cases k2:kd=2
  focus
   subst k2
   have hv:=aa (show fO p ⟨2,a,b,ec,tt⟩=(pS p.metas a,dC p.metas.length a&&decide (b=0)) from rfl)
   have hC:=iO A2 c2 p.metas a wa hA2.out
   cases hz:dC p.metas.length a
   rw [hz] at hC hv
   replace hC:=aa hC
   rotate_right
   focus
    rw [hz] at hC hv
    replace hC:=aa hC
    by_cases hb:b=0
    focus subst hb
    rotate_right
    have hbz:(b==0)=false:=beq_eq_false_iff_ne.2 hb
    rw [decide_eq_false hb] at hv
   all_goals
    go_wp2_with (go_at_call 129;refine hC.out.mono ?_;rintro e w' ⟨rfl,rfl⟩)
    go_quiet (fail)
    go_wp2
    exact bodyPost_ret (results_tmp2 rfl _ _ _) rfl ⟨by rw [hv.out]<;>rfl,hwd.out _⟩
  rotate_right
  focus
   by_cases k3:kd=3
   focus
    subst k3
    have hv:=aa (show fO p ⟨3,a,b,ec,tt⟩=(0,dC p.tabs.length a&&decide (b=0)) from rfl)
    have hC:=Aj A5 c5 p.tabs a wa hA5.out
    cases hz:dC p.tabs.length a
    rw [hz] at hC hv
    replace hC:=aa hC
    rotate_right
    focus
     rw [hz] at hC hv
     replace hC:=aa hC
     by_cases hb:b=0
     focus subst hb
     rotate_right
     have hbz:(b==0)=false:=beq_eq_false_iff_ne.2 hb
     rw [decide_eq_false hb] at hv
   rotate_right
   focus
    by_cases k6:kd=6
    focus
     subst k6
     have hv:=aa (show fO p ⟨6,a,b,ec,tt⟩=(0,dC p.heads.length a&&(decide (b=0) ||decide (b=1))) from rfl)
     have hC:=kE A1 c1 p.heads a wa hA1.out
     cases hz:dC p.heads.length a
     rw [hz] at hC hv
     replace hC:=aa hC
     rotate_right
     focus
      rw [hz] at hC hv
      replace hC:=aa hC
      by_cases hb:b=0
      focus subst hb
      rotate_right
      focus
       have hbz:(b==0)=false:=beq_eq_false_iff_ne.2 hb
       rw [decide_eq_false hb] at hv
       by_cases hb1:b=1
       focus subst hb1
       rotate_right
       have hbz1:(b==1)=false:=beq_eq_false_iff_ne.2 hb1
       rw [decide_eq_false hb1] at hv
    rotate_right
    focus
     by_cases k7:kd=7∨kd=5
     focus
      have hv:=aa (show fO p ⟨kd,a,b,ec,tt⟩=(if kd=7 then 1 else 9,decide (a=0)&&decide (b=0)) from by rcases k7 with rfl|rfl<;>rfl)
      by_cases ha:a=0
      focus
       rw [decide_eq_true ha,Hx] at hv
       subst ha
       by_cases hb:b=0
       focus
        rw [decide_eq_true hb] at hv
        subst hb
       rotate_right
       have hbz:(b==0)=false:=beq_eq_false_iff_ne.2 hb
       rw [decide_eq_false hb] at hv
      rotate_right
      have haz:(a==0)=false:=beq_eq_false_iff_ne.2 ha
      rw [decide_eq_false ha,Hu] at hv
     rotate_right
     focus
      have hv:=aa (show fO p ⟨kd,a,b,ec,tt⟩=(0,(decide (kd=4) ||decide (kd=8))&&decide (a=0)&&decide (b=0)) from by
       unfold fO;simp only [if_neg k1,if_neg k2,if_neg k3,if_neg k6,if_neg (fun g=>k7 (.inl g)),if_neg (fun g=>k7 (.inr g))])
      simp only [not_or] at k7
      obtain ⟨k7,k5⟩:=k7
      have z1:=beq_eq_false_iff_ne.2 k1
      have z2:=beq_eq_false_iff_ne.2 k2
      have z3:=beq_eq_false_iff_ne.2 k3
      have z6:=beq_eq_false_iff_ne.2 k6
      have z7:=beq_eq_false_iff_ne.2 k7
      have z5:=beq_eq_false_iff_ne.2 k5
      by_cases k4:kd=4∨kd=8
      focus
       have hv2:=aa (show (decide (kd=4) ||decide (kd=8))=true from by rcases k4 with rfl|rfl<;>rfl)
       rw [hv2.out,Hx] at hv
       by_cases ha:a=0
       focus
        rw [decide_eq_true ha,Hx] at hv
        subst ha
        by_cases hb:b=0
        focus
         rw [decide_eq_true hb] at hv
         subst hb
        rotate_right
        have hbz:(b==0)=false:=beq_eq_false_iff_ne.2 hb
        rw [decide_eq_false hb] at hv
       rotate_right
       have haz:(a==0)=false:=beq_eq_false_iff_ne.2 ha
       rw [decide_eq_false ha,Hu] at hv
      rotate_right
      focus
       simp only [not_or] at k4
       obtain ⟨k4,k8⟩:=k4
       rw [decide_eq_false k4,decide_eq_false k8] at hv
       have z4:=beq_eq_false_iff_ne.2 k4
       have z8:=beq_eq_false_iff_ne.2 k8
       go_wp2_with fail
       go_quiet (fail)
       go_wp2
       exact bodyPost_ret (results_tmp2 rfl _ _ _) rfl ⟨by rw [hv.out]<;>rfl,hwd.out _⟩
      all_goals
       rcases k4 with rfl|rfl
       all_goals
        go_wp2_with fail
        go_quiet (fail)
        go_wp2
        exact bodyPost_ret (results_tmp2 rfl _ _ _) rfl ⟨by rw [hv.out]<;>rfl,hwd.out _⟩
     all_goals
      rcases k7 with rfl|rfl
      all_goals
       go_wp2_with fail
       go_quiet (fail)
       go_wp2
       exact bodyPost_ret (results_tmp2 rfl _ _ _) rfl ⟨by rw [hv.out]<;>rfl,hwd.out _⟩
    all_goals
     go_wp2_with (go_at_call 128;refine hC.out.mono ?_;rintro e w' ⟨A',c',rfl,hs,rfl⟩)
     go_quiet (fail)
     go_wp2
     exact bodyPost_ret (results_tmp2 rfl _ _ _) rfl ⟨by rw [hv.out]<;>rfl,hwd.out _⟩
 all_goals
  go_wp2_with (go_at_call 130;refine hC.out.mono ?_;rintro e w3 ⟨v,⟨⟨B1,m1,d1,B2,m2,d2,B3,m3,d3,i3,B4,m4,d4,rfl⟩,rfl⟩,hb3⟩;have kb3:=fd hb3;have hq:=Hr hl2 hb3.size;have hE:=aa (fun o m=>hw.out.trans (au ((hb3.alloc hb3.size o).mono hw.out.size) m)))
  go_quiet (fail)
  go_wp2
  exact bodyPost_ret (results_tmp2 rfl _ _ _) rfl ⟨by rw [hv.out]<;>rfl,hE.out _ _⟩
theorem Sl.ins {w:World} {B:Nat} {A:Option Addr} {xs:List mW} (h:Sl 5 m7 w B A xs) {i:Nat} (hi:i<xs.length):∃ b o A' c',A=some ⟨b,o,none⟩∧b<B∧w.cell? ⟨b,o+i*5,none⟩=some (.int .u8 xs[i].kind)∧w.cell? ⟨b,o+i*5+1,none⟩=some (.int .i64 xs[i].a)∧w.cell? ⟨b,o+i*5+2,none⟩=some (.int .i64 xs[i].b)∧w.cell? ⟨b,o+i*5+3,none⟩=some (.slice A' xs[i].e.length c')∧w.cell? ⟨b,o+i*5+4,none⟩=some (.int .i64 xs[i].to)∧Sl 6 zo w B A' xs[i].e:=by
 obtain ⟨b,o,ecs,hA,hb,hl,hc,A',c',rfl,h1⟩:=h.2 i xs[i] (HA hi)
 exact ⟨b,o,A',c',hA,hb,hc 0 _ rfl,hc 1 _ rfl,hc 2 _ rfl,hc 3 _ rfl,hc 4 _ rfl,h1⟩
def E0 (tok:Bool) (act kd tt:Int) (i many:Nat):Bool:=tok&& !(decide (0≤act)&&decide (kd=3))&&(if kd=7∨kd=8 then decide ((i:Int)<tt)&&decide (tt≤many) else decide (tt=0))
def FL (w:Int) (n:Nat) (o:Option Int):Bool:=if w=0 then decide (n=0) else if 0<w then decide (o=some w) else true
theorem xe (p:Lp) (act:Int) (many i:Nat) (x:mW):ep (DL p act) p act many i x=(E0 (fO p x).2 act x.kind x.to i many&&FL (fO p x).1 x.e.length (eO p act x.e)):=by
 unfold ep E0 oT DL FL
 congr 1
 by_cases h:(fO p x).1=0
 ·rw [if_pos h,if_pos h];cases x.e<;>rfl
 ·rw [if_neg h,if_neg h]
theorem iZ (A1 A2 A3 A4 A5 A6 A7 A8 A9 A10 A11 A12:Option Addr) (p:Lp) (c1 c2 c3 c4 c5 c6 c7 c8 c9 c10 c11 c12:Nat) (act:Int) (l:List mW) (A:Option Addr) (cap:Nat) (w:World) (h:cz w w.heap.size A1 A2 A3 A4 A5 A6 A7 A8 A9 A10 A11 A12 p) (hc:Sl 5 m7 w w.heap.size A l):
  Calls prog 38 #[.agg (aO A1 A2 A3 A4 A5 A6 A7 A8 A9 A10 A11 A12 p c1 c2 c3 c4 c5 c6 c7 c8 c9 c10 c11 c12),.int .i64 act,.slice A l.length cap] w fun e w'=>e=.returned (.bool (eQ p act l))∧Below w.heap.size w w':=by
 unfold aO
 have hlen:=hc.len
 obtain ⟨wz,hwz,hsz,hbz,hcz,-⟩:=af w (aO A1 A2 A3 A4 A5 A6 A7 A8 A9 A10 A11 A12 p c1 c2 c3 c4 c5 c6 c7 c8 c9 c10 c11 c12) 33
 have hP:=aa (h.below hbz)
 have hC:=aa (hc.below bz hbz)
 have hl1:w.heap.size<wz.heap.size:=by omega
 replace hbz:=aa hbz
 replace hsz:=aa hsz
 by_cases h6:65536<l.length
 ·have h6z:(65536:Int)<(l.length:Int):=by omega
  have hv:=aa (show eQ p act l=false from by unfold eQ kW;rw [decide_eq_false (by omega),Hu])
  clear hcz h hc
  go_enter func38,ntmps38
  go_wp2
  go_ret
  exact ⟨ad hv.out.symm,hbz.out⟩
 ·have h6z:¬(65536:Int)<(l.length:Int):=by omega
  have hv:=aa (show eQ p act l=ar (fun i=>aZ (ep (DL p act) p act l.length i) l i) l.length from by unfold eQ kW;rw [decide_eq_true (by omega),Hx])
  generalize hF:(fun i=>aZ (ep (DL p act) p act l.length i) l i)=F at hv
  clear h hc
  go_enter func38,ntmps38
  go_wp2
  go_loopw [7,8,9,10,11,12,13,19] (fun _ _ _ _ _ _ _ i wr=>∃ k:Nat,k≤l.length∧i=.int .i64 k∧Hid (ar F k=true)∧Hid (Below wz.heap.size wz wr)) (fun _ _ _ _ _ _ _ i _=>l.length-(intOf i).toNat)
  case atStart=>exact ⟨0,Hz _,rfl,aa rfl,aa (Hs _ _)⟩
  case round=>
   obtain ⟨k,hk,rfl,hcn,hG⟩:=hrel
   have hzr:=hG.out.size
   have hgo:=aa (fun W (hW:Below wz.heap.size wr W)=>hbz.out.trans ((hG.out.trans hW).mono hbz.out.size))
   by_cases hlt:k<l.length
   ·have hkz:(k:Int)<(l.length:Int):=by omega
    obtain ⟨b,o,A',c',rfl,hb,n0,n1,n2,n3,n4,hE⟩:=(hC.out.below bz (hG.out.mono hbz.out.size)).ins hlt
    have hFk:F k=ep (DL p act) p act l.length k l[k]:=by rw [←hF];simp only [am _ hlt]
    rw [xe] at hFk
    have hN:=aa (fun (g:F k=true)=>show ar F (k+1)=true from by rw [ar,hcn.out,g];rfl)
    have hlo:=aa (fun (g:F k=false)=>show ar F l.length=false from ba hlt g)
    clear hF
    generalize hxk:l[k]=x at*
    obtain ⟨kd,a,b2,ec,tt⟩:=x
    simp only at n0 n1 n2 n3 n4 hE hFk
    replace hxk:=aa hxk
    obtain ⟨wn,hwn,hsn,hbn,hcl,-⟩:=af wr #[.int .u8 kd,.int .i64 a,.int .i64 b2,.slice A' ec.length c',.int .i64 tt] 123
    obtain ⟨m0,m1,m2,m3,m4⟩:=p8 hcl
    have Yn:=fun i=>(bj hbn w.heap.size i (by omega)).trans ((bj hG.out w.heap.size i (by omega)).trans (hcz i))
    have y0:=Yn 0
    have y1:=Yn 1
    have y2:=Yn 2
    have y3:=Yn 3
    have y4:=Yn 4
    have y5:=Yn 5
    have y6:=Yn 6
    have y7:=Yn 7
    have y8:=Yn 8
    have y9:=Yn 9
    have y10:=Yn 10
    have y11:=Yn 11
    simp only [HB,HC,HD] at y0 y1 y2 y3 y4 y5 y6 y7 y8 y9 y10 y11
    have hPn:=(((hP.out.below (hG.out.mono hbz.out.size)).below (hbn.mono (by omega))).more (B':=wn.heap.size) (by omega))
    have hEn:=aa ((hE.below bm (hbn.mono (by omega))).more (B':=wn.heap.size) bm (by omega))
    have hT:=tE A1 A2 A3 A4 A5 A6 A7 A8 A9 A10 A11 A12 p c1 c2 c3 c4 c5 c6 c7 c8 c9 c10 c11 c12 ⟨kd,a,b2,ec,tt⟩ A' c' wn hPn
    replace hPn:=aa hPn
    have hwrn:wr.heap.size<wn.heap.size:=by omega
    have hwl:w.heap.size<wn.heap.size:=by omega
    have hgn:=aa (show Below wz.heap.size wr wn from hbn.mono hzr)
    have lec:=hE.len
    simp only at hT
    generalize fO p ⟨kd,a,b2,ec,tt⟩=T at hT hFk
    obtain ⟨tw,tok⟩:=T
    simp only at hT hFk
    replace hT:=aa hT
    replace hsn:=aa hsn
    clear hcl hbn Yn hE
    go_upto_region 7 with (go_at_call 86;refine hT.out.mono ?_;rintro e w3 ⟨rfl,hb3⟩)
    have z0:=(hb3.cell (p:=⟨wr.heap.size,0,none⟩) hwrn).trans m0
    have z3:=(hb3.cell (p:=⟨wr.heap.size,3,none⟩) hwrn).trans m3
    have z4:=(hb3.cell (p:=⟨wr.heap.size,4,none⟩) hwrn).trans m4
    have hw3:=Hr hwrn hb3.size
    have hg3:=aa (hgn.out.trans (hb3.mono (Hw hzr (by omega))))
    have kb3:=aa (fun i=>hb3.cell (p:=⟨w.heap.size,i,none⟩) hwl)
    have hP3:=aa ((hPn.out.below hb3).more hb3.size)
    have hE3:=aa ((hEn.out.below bm hb3).more bm hb3.size)
    clear m0 m1 m2 m3 m4 n0 n1 n2 n3 n4 hb3 hT hPn hEn
    go_cut [11] (fun u wx=>u=.bool (decide (kd=7) ||decide (kd=8))∧wx=w3)
    case first=>
     go_wp2
     all_goals go_meet
     all_goals refine ⟨congrArg Value.bool ?_,rfl⟩
     all_goals clear hFk hN hlo hxk hv hcn
     all_goals first|rfl|(rw [HF];simp [*];done)|(rw [HF];simp [*];omega)|(rw [HF];simp_all;done)|(rw [HF];simp_all;omega)
    case rest=>
     obtain ⟨rfl,rfl⟩:=hcut
     go_upto_region 8 with fail
     have hJ:∀ jb:Bool,(decide (kd=7) ||decide (kd=8))=jb→E0 tok act kd tt k l.length=(tok&& !(decide (0≤act)&&decide (kd=3))&&(if jb=true then decide ((k:Int)<tt)&&decide (tt≤l.length) else decide (tt=0))):=fun jb h=>by
      subst h
      unfold E0
      by_cases h7:kd=7<;>by_cases h8:kd=8<;>simp [h7,h8]
     generalize (decide (kd=7) ||decide (kd=8))=jb at hJ ⊢
     replace hJ:=hJ jb rfl
     generalize hGo:E0 tok act kd tt k l.length=G at hJ hFk
     replace hFk:=aa hFk
     go_cut [73] (fun u wx=>u=.bool (!G)∧wx=wc)
     case first=>
      cases tok<;>cases jb
      all_goals go_wp2
      all_goals go_meet
      all_goals refine ⟨congrArg Value.bool ?_,rfl⟩
      all_goals rw [hJ]
      all_goals clear hFk hN hlo hxk hv hcn hJ hGo hgo hG hC hP hE3 hP3 hg3 kb3
      all_goals first|rfl|(rw [HF];simp [*];done)|(rw [HF];simp [*];omega)|(rw [HF];simp_all;done)|(rw [HF];simp_all;omega)
     case rest=>
      obtain ⟨rfl,rfl⟩:=hcut
      cases G with
      |false=>
       replace hlo:=aa (hlo.out (by rw [hFk.out];rfl))
       go_wp2
       go_ret
       exact ⟨ad (by rw [hv.out,hlo.out]),hgo.out _ hg3.out⟩
      |true=>
       have t0:=(kb3.out 0).trans y0
       have t1:=(kb3.out 1).trans y1
       have t2:=(kb3.out 2).trans y2
       have t3:=(kb3.out 3).trans y3
       have t4:=(kb3.out 4).trans y4
       have t5:=(kb3.out 5).trans y5
       have t6:=(kb3.out 6).trans y6
       have t7:=(kb3.out 7).trans y7
       have t8:=(kb3.out 8).trans y8
       have t9:=(kb3.out 9).trans y9
       have t10:=(kb3.out 10).trans y10
       have t11:=(kb3.out 11).trans y11
       have hW:=gQ A1 A2 A3 A4 A5 A6 A7 A8 A9 A10 A11 A12 p c1 c2 c3 c4 c5 c6 c7 c8 c9 c10 c11 c12 act ec A' c' wc hP3.out hE3.out
       unfold Cc at hW
       replace hW:=aa hW
       clear y0 y1 y2 y3 y4 y5 y6 y7 y8 y9 y10 y11 hJ hGo
       generalize eO p act ec=o at hW hFk
       go_upto_region 11 with (go_at_call 87;refine hW.out.mono ?_;rintro e w4 ⟨rfl,hb4⟩)
       have z3':=(hb4.cell (p:=⟨wr.heap.size,3,none⟩) hw3).trans z3
       have hg4:=aa (hg3.out.trans (hb4.mono (Hw hzr (HL hw3))))
       have hw4:=Hr hw3 hb4.size
       clear t0 t1 t2 t3 t4 t5 t6 t7 t8 t9 t10 t11 hb4 hW z0 z3 z4
       generalize hCd:FL tw ec.length o=D at hFk
       obtain ⟨wd,hwd⟩:∃ wd:World,wd=wc:=⟨_,rfl⟩
       go_cut [9,12,13,102] (fun _ _ _ u wx=>u=.bool (!D)∧wx=w4)
       case first=>
        cases o
        all_goals go_wp2
        all_goals go_meet
        all_goals first|refine ⟨congrArg Value.bool ?_,rfl⟩|(exfalso;clear hFk hN hlo hxk hv hcn hgo hG hC hP hE3 hP3 hg3 kb3 hCd;cases ec<;>simp_all)
        all_goals rw [←hCd]
        all_goals clear hFk hN hlo hxk hv hcn hgo hG hC hP hE3 hP3 hg3 kb3 hCd
        all_goals unfold FL
        all_goals first|rfl|(rw [HF];simp [*];done)|(rw [HF];simp [*];omega)|(rw [HF];simp_all;done)|(rw [HF];simp_all;omega)
       case rest=>
        obtain ⟨rfl,rfl⟩:=hcut
        cases D with
        |false=>
         replace hlo:=aa (hlo.out (by rw [hFk.out];rfl))
         go_wp2
         go_ret
         exact ⟨ad (by rw [hv.out,hlo.out]),hgo.out _ hg4.out⟩
        |true=>
         replace hN:=aa (hN.out (by rw [hFk.out];rfl))
         have hGN:=aa (hG.out.trans hg4.out)
         go_wp2
         go_roundw
         case rel=>exact ⟨k+1,by omega,by go_num,hN,hGN⟩
         case measure=>simp [intOf];omega
   ·have hke:k=l.length:=by omega
    subst hke
    go_wp2
    go_ret
    exact ⟨ad (by rw [hv.out,hcn.out]),hgo.out _ (Hs _ _)⟩
theorem jX (a:Int) (e:Bool) (w:World):(Instr.checkKey e 10000 3 (.int .i64 a)).run prog w=.ok () w:=by
 have hk:∀ n:Nat,(Instr.checkKey e (n+1) 3 (.int .i64 a)).run prog w=.ok () w:=fun n=>by simp [Instr.checkKey,run_underlying underlying3]
 exact hk 9999
abbrev NN:=List (Int×Int)
def nL (o:Nat) (M:NN):List MapEntry:=(M.zipIdx o).map fun x=>⟨.int .i64 x.1.1,.int .i64 x.1.2,x.2⟩
def i9 (M:NN):Array MapEntry:=(nL 0 M).toArray
def iy (w:World) (b:Nat) (M:NN):Prop:=w.heap[b]? =some (.map (i9 M) M.length)
def mi (w:World) (b:Nat) (M:NN):World:= { w with heap:=w.heap.setIfInBounds b (.map (i9 M) M.length)}
def dJ:NN→Int→Option (Nat×Int)
 | [],_=>none
 |x::M,e=>if e=x.1 then some (0,x.2) else (dJ M e).map fun y=>(y.1+1,y.2)
theorem rc (e:Int):∀ (M:NN) (o i:Nat),Instr.findNow (.int .i64) (.int .i64 e) (nL o M) i=some ((dJ M e).map fun y=>(i+y.1,.int .i64 y.2))
 | [],o,i=>by simp [nL,Instr.findNow,dJ]
 |x::M,o,i=>by
  have ih:=rc e M (o+1) (i+1)
  have hm:nL o (x::M)=⟨.int .i64 x.1,.int .i64 x.2,o⟩::nL (o+1) M:=by simp [nL,List.zipIdx_cons]
  rw [hm]
  unfold Instr.findNow
  simp only [Instr.sameNow,if_true]
  by_cases h:e=x.1
  ·simp [dJ,h]
  ·have h':(e==x.1)=false:=by simpa using h
   simp only [h',dJ,if_neg h,ih]
   cases dJ M e with
   |none=>simp
   |some y=>simp;omega
theorem ja (e:Int) (w:World) (M:NN):(Instr.findKey 3 (.int .i64 e) (i9 M).toList).run prog w=.ok ((dJ M e).map fun y=>(y.1,.int .i64 y.2)) w:=by
 have:=rc e M 0 0
 unfold Instr.findKey
 simp only [Sem.run_bind,run_underlying underlying3,Result.andThen_ok,i9,this]
 simp
theorem jY {w:World} {b:Nat} {M:NN} (h:iy w b M):(getObj b).run prog w=.ok (.map (i9 M) M.length) w:=by
 unfold iy at h
 simp [getObj,Sem.run,h]
theorem jZ {w:World} {b:Nat} {M:NN} (h:iy w b M) (M':NN) (es:Array MapEntry) (c:Nat) (he:es=i9 M') (hc:c=M'.length):(setObj b (.map es c)).run prog w=.ok () (mi w b M'):=by
 unfold iy at h
 subst he hc
 simp [setObj,Sem.run,h,mi]
theorem iy.lt {w:World} {b:Nat} {M:NN} (h:iy w b M):b<w.heap.size:=by
 rcases Nat.lt_or_ge b w.heap.size with h1|h1
 ·exact h1
 ·unfold iy at h;rw [Array.getElem?_eq_none h1] at h;cases h
theorem uW {w:World} {b:Nat} {M M':NN} (h:iy w b M):iy (mi w b M') b M':=by
 have:=h.lt
 simp [iy,mi,this]
theorem iy.alloc {w:World} {b:Nat} {M:NN} (h:iy w b M) (o:Obj):iy (w.alloc o) b M:=(Below.heap_alloc w o b h.lt).trans h
theorem iy.below {w w':World} {b B:Nat} {M:NN} (h:iy w b M) (hb:Below B w w') (hB:b<B):iy w' b M:=(hb.block b hB).trans h
theorem xf (w:World) (b:Nat) (M:NN):(mi w b M).heap.size=w.heap.size:=by simp [mi]
theorem Ak {w:World} {b k:Nat} {M:NN} (h:k≠b):(mi w b M).heap[k]? =w.heap[k]? :=by simp only [mi];rw [Array.getElem?_setIfInBounds_ne (fun e=>h e.symm)]
theorem Al (M:NN) (e:Int):ez M e=((dJ M e).map fun y=>y.2).getD 0:=by
 induction M with
 |nil=>rfl
 |cons x M ih=>
  simp only [ez,dJ]
  split
  ·rfl
  ·rw [ih];cases dJ M e<;>rfl
theorem Am {M:NN} {e v:Int} (h:dJ M e=none):gc M e v=M++ [(e,v)]:=by
 induction M with
 |nil=>rfl
 |cons x M ih=>
  simp only [dJ] at h
  split at h
  ·cases h
  ·rename_i hx
   simp only [gc,if_neg hx,List.cons_append]
   rw [ih (by cases hl:dJ M e with
    |none=>rfl
    |some y=>rw [hl] at h;cases h)]
theorem Ao {M:NN} {e v:Int} {y:Nat×Int} (h:dJ M e=some y):gc M e v=M.set y.1 (e,v)∧M[y.1]? =some (e,y.2):=by
 induction M generalizing y with
 |nil=>cases h
 |cons x M ih=>
  simp only [dJ] at h
  split at h
  ·rename_i hx
   injection h with h
   subst h
   subst hx
   simp [gc]
  ·rename_i hx
   cases hl:dJ M e with
   |none=>rw [hl] at h;cases h
   |some z=>
    rw [hl] at h
    injection h with h
    subst h
    have:=ih hl
    simp only [gc,if_neg hx,HJ,this.1]
    exact ⟨trivial,by simpa using this.2⟩
theorem re {w:World} {b:Nat} {M:NN} (h:iy w b M) (e:Int):(Instr.lookup 153 (.map (some b)) (.int .i64 e) false).run prog w=.ok (.int .i64 (ez M e)) w:=by
 have hz:(zeroValue 3).run prog w=.ok (.int .i64 0) w:=by go_simp
 rw [Al]
 unfold Instr.lookup
 simp only [Sem.run_bind,run_underlying underlying153,Result.andThen_ok,jY h,Sem.run_pure,jX,ja]
 cases hl:dJ M e with
 |none=>simp [hz]
 |some y=>simp
theorem tF:∀ (M:NN) (o i:Nat),(nL o M)[i]? =(M[i]?).map fun x=>⟨.int .i64 x.1,.int .i64 x.2,o+i⟩:=by
 intro M o i
 simp [nL,List.getElem?_map,List.getElem?_zipIdx]
 cases M[i]? <;>simp
theorem j0 {w:World} {b:Nat} {M:NN} (h:iy w b M) (e v:Int):(Instr.mapUpdate 153 (.map (some b)) (.int .i64 e) (.int .i64 v)).run prog w=.ok () (mi w b (gc M e v)):=by
 unfold Instr.mapUpdate
 simp only [Sem.run_bind,run_underlying underlying153,Result.andThen_ok,jY h,jX,ja]
 cases hl:dJ M e with
 |none=>
  have hp:(i9 M).push ⟨.int .i64 e,.int .i64 v,M.length⟩=i9 (M++ [(e,v)]):=by simp [i9,nL,List.zipIdx_append]
  rw [Am hl]
  simp only [Option.map_none,jZ h (M++ [(e,v)]) _ (M.length+1) hp (by simp)]
 |some y=>
  obtain ⟨h1,h2⟩:=Ao (v:=v) hl
  have hlt:y.1<M.length:=(H1.1 h2).1
  have hm:(i9 M)[y.1]? =some ⟨.int .i64 e,.int .i64 y.2,y.1⟩:=by
   have:=tF M 0 y.1
   rw [h2] at this
   simpa [i9] using this
  have hmod:(i9 M).modify y.1 (fun x=> { x with key:=.int .i64 e,val:=.int .i64 v})=i9 (M.set y.1 (e,v)):=by
   apply Array.ext_getElem?
   intro j
   have g1:=tF M 0 j
   have g2:=tF (M.set y.1 (e,v)) 0 j
   rw [Array.getElem?_modify]
   simp only [i9,HB] at g1 g2 ⊢
   rw [g1,g2]
   by_cases hij:y.1=j
   ·subst hij;simp [hlt]
   ·simp [hij]
  rw [h1]
  simp only [Option.map_some,hm,If,Instr.keyThatStays,Result.andThen_ok,Sem.run_pure,Sem.run_bind]
  simp [Instr.sameBits,hmod,jZ h (M.set y.1 (e,v)) _ M.length rfl (by simp)]
end Go.Proofs.YtijcdfdbkffiaaaGreatDoor

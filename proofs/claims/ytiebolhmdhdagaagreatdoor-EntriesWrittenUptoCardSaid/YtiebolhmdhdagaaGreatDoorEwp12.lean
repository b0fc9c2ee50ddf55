import Derived.Test.YtiebolhmdhdagaaGreatDoorEwp11
import Derived.Lib.ItoaLen
import Derived.Shelf.Strings.SlTrimAscii
import Derived.Deep.RegionHeld3
set_option linter.all false
set_option maxHeartbeats 8000000
set_option maxRecDepth 100000
open Go.Proofs.Tryz
namespace Go.Proofs.YtiebolhmdhdagaaGreatDoor
open _root_.Nat renaming lt_of_lt_of_le→He, le_refl→Hh, zero_le→Hm, le_of_lt→Hs, pow_le_pow_right→Ic, testBit_two_pow_mul_add→Ig
open _root_.Go.RowKit.Below renaming refl→Hf
open _root_.Go.Calls renaming regrown_of→Hi
open _root_.Bool renaming and_eq_true→Hl, eq_iff_iff→Hr, false_eq_true→Hy
open _root_.List renaming getElem?_eq_getElem→Hn, getElem_mem→Ho, all_eq_true→Hx, length_map→Hz, append_assoc→HP, length_drop→H1, take_of_length_le→Ia
open _root_.Int renaming eq_ofNat_of_zero_le→Hv, toNat_natCast→HG
open _root_.Array renaming getElem?_eq_some_iff→If
open Go.RowKit
abbrev nA (T:Nat):Value:=.agg #[.int .u64 ((T / 18446744073709551616:Nat):Int),.int .u64 ((T % 18446744073709551616:Nat):Int)]
abbrev zq (x:Pt):Value:=.agg #[.int .u64 x.vh,.int .u64 x.vl,.int .u64 x.mh,.int .u64 x.ml]
theorem EH {a b c d:Int} (h1:aI a) (h2:aI b) (h3:aI c) (h4:aI d):nv a b&&&nv c d=nv (aJ a c) (aJ b d):=by
 obtain ⟨a,rfl⟩:=Hv h1.1
 obtain ⟨b,rfl⟩:=Hv h2.1
 obtain ⟨c,rfl⟩:=Hv h3.1
 obtain ⟨d,rfl⟩:=Hv h4.1
 have ea:aJ (a:Int) c=((a&&&c:Nat):Int):=by rw [aJ,u64_and_nat a c (by have:=h1.2;omega) (by have:=h3.2;omega)]
 have eb:aJ (b:Int) d=((b&&&d:Nat):Int):=by rw [aJ,u64_and_nat b d (by have:=h2.2;omega) (by have:=h4.2;omega)]
 have hb:b<2 ^ 64:=by have:=h2.2;omega
 have hd:d<2 ^ 64:=by have:=h4.2;omega
 rw [ea,eb]
 unfold nv
 simp only [HG]
 rw [show a*18446744073709551616+b=2 ^ 64*a+b by omega,show c*18446744073709551616+d=2 ^ 64*c+d by omega,show (a&&&c)*18446744073709551616+(b&&&d)=2 ^ 64*(a&&&c)+(b&&&d) by omega]
 apply Nat.eq_of_testBit_eq
 intro i
 rw [Nat.testBit_and,Ig _ hb,Ig _ hd,Ig _ (Nat.lt_of_le_of_lt Nat.and_le_left hb)]
 split<;>rw [Nat.testBit_and]
theorem da {n:Nat} (h:n<2 ^ 128):aI ((n / 18446744073709551616:Nat):Int)∧aI ((n % 18446744073709551616:Nat):Int):=by
 refine ⟨⟨?_,?_⟩,⟨?_,?_⟩⟩<;>omega
theorem jE (n:Nat):nv ((n / 18446744073709551616:Nat):Int) ((n % 18446744073709551616:Nat):Int)=n:=by
 unfold nv;simp only [HG];omega
theorem C8 {n m:Nat} (hn:n<2 ^ 128) (hm:m<2 ^ 128):py n m=⟨aJ ((n / 18446744073709551616:Nat):Int) ((m / 18446744073709551616:Nat):Int),aJ ((n % 18446744073709551616:Nat):Int) ((m % 18446744073709551616:Nat):Int),((m / 18446744073709551616:Nat):Int),((m % 18446744073709551616:Nat):Int)⟩:=by
 obtain ⟨a1,a2⟩:=da hn
 obtain ⟨b1,b2⟩:=da hm
 have h:=EH a1 a2 b1 b2
 have h2:=DT (me a1 b1) (me a2 b2) b1 b2
 rw [←h,jE,jE] at h2
 exact h2
theorem pK {y:Int} (hw:aj y=true):2 ^ y.toNat≤2 ^ 128:=Ic (by decide) (by have:=(aA y).1 hw;omega)
theorem uF (n m:Nat) (y:Int) (w:World) (hw:aj y=true) (hn:n<2 ^ y.toNat) (hm:m<2 ^ y.toNat):
  Calls prog 204 #[nA n,nA m,.int .i64 y] w fun e w'=>e=.returned (.tuple #[zq (py n m),.int .i64 0])∧Below w.heap.size w w':=by
 have hp:=pK hw
 obtain ⟨a1,a2⟩:=da (n:=n) (by omega)
 obtain ⟨b1,b2⟩:=da (n:=m) (by omega)
 rw [C8 (by omega) (by omega)]
 exact Be _ _ _ _ y w a1 a2 b1 b2 hw (by rw [iR a1 a2,jE];exact decide_eq_true hn) (by rw [iR b1 b2,jE];exact decide_eq_true hm)
def fl (W:World) (r:Nat) (a b c d:Int):Prop:=W.heap[r]? =some (.cells #[.int .u64 a,.int .u64 b,.int .u64 c,.int .u64 d] 63 (0,0))
theorem fl.lt {W:World} {r:Nat} {a b c d:Int} (h:fl W r a b c d):r<W.heap.size:=bL h
theorem fl.cells {W:World} {r:Nat} {a b c d:Int} (h:fl W r a b c d):W.cell? ⟨r,0,none⟩=some (.int .u64 a)∧W.cell? ⟨r,1,none⟩=some (.int .u64 b)∧W.cell? ⟨r,2,none⟩=some (.int .u64 c)∧W.cell? ⟨r,3,none⟩=some (.int .u64 d)∧W.frozen? ⟨r,0,none⟩=false∧W.frozen? ⟨r,1,none⟩=false∧W.frozen? ⟨r,2,none⟩=false∧W.frozen? ⟨r,3,none⟩=false:=
 ⟨bn h 0,bn h 1,bn h 2,bn h 3,fW h 0,fW h 1,fW h 2,fW h 3⟩
theorem fl.below {W W':World} {r B:Nat} {a b c d:Int} (h:fl W r a b c d) (hb:Below B W W') (hr:r<B):fl W' r a b c d:=(hb.block r hr).trans h
theorem iW {w W:World} {B r:Nat} {a b c d:Value} (h:Below B w W) (hr:B≤r):Below B w ((((W.setCell ⟨r,0,none⟩ a).setCell ⟨r,1,none⟩ b).setCell ⟨r,2,none⟩ c).setCell ⟨r,3,none⟩ d):=
 (((h.setCell hr _).setCell hr _).setCell hr _).setCell hr _
theorem xV (n m:Nat) (y:Int) (w:World) (hw:aj y=true) (hn:n<2 ^ y.toNat) (hm:m<2 ^ y.toNat):
  Calls prog 182 #[nA n,nA m,.int .i64 y] w fun e w'=>e=.returned (.tuple #[zq (py n m),.int .i64 0])∧Below w.heap.size w w':=by
 have hM:=aa (fun W=>uF n m y W hw hn hm)
 unfold nA at hM ⊢
 generalize py n m=x at hM ⊢
 generalize ((n / 18446744073709551616:Nat):Int)=a at hM ⊢
 generalize ((n % 18446744073709551616:Nat):Int)=b at hM ⊢
 generalize ((m / 18446744073709551616:Nat):Int)=c at hM ⊢
 generalize ((m % 18446744073709551616:Nat):Int)=d at hM ⊢
 clear hw hn hm
 obtain ⟨wa,hwa,hsa,hba,hca,-⟩:=ak w #[.int .u64 a,.int .u64 b] 61
 obtain ⟨wb,hwb,hsb,hbb,hcb,-⟩:=ak wa #[.int .u64 c,.int .u64 d] 61
 obtain ⟨wc,hwc,hsc,hbc,hcc,-⟩:=ak wb #[.int .u64 0,.int .u64 0,.int .u64 0,.int .u64 0] 63
 have hP:=aa (show fl wc wb.heap.size 0 0 0 0 by rw [←hwc];exact heap_alloc_new wb _)
 have x0:wc.cell? ⟨w.heap.size,0,none⟩=some (.int .u64 a):=(bH hbc w.heap.size 0 (by omega)).trans ((bH hbb w.heap.size 0 (by omega)).trans (hca 0))
 have x1:wc.cell? ⟨w.heap.size,1,none⟩=some (.int .u64 b):=(bH hbc w.heap.size 1 (by omega)).trans ((bH hbb w.heap.size 1 (by omega)).trans (hca 1))
 have x2:wc.cell? ⟨wa.heap.size,0,none⟩=some (.int .u64 c):=(bH hbc wa.heap.size 0 (by omega)).trans (hcb 0)
 have x3:wc.cell? ⟨wa.heap.size,1,none⟩=some (.int .u64 d):=(bH hbc wa.heap.size 1 (by omega)).trans (hcb 1)
 have hbw:=aa ((hba.trans (hbb.mono (by omega))).trans (hbc.mono (by omega)))
 have hz:=aa (show w.heap.size≤wb.heap.size∧wb.heap.size<wc.heap.size by omega)
 rw [hsa] at x2 x3
 have hsb':wb.heap.size=w.heap.size+2:=by omega
 rw [hsb'] at hP hz
 replace hsc:=aa hsc
 clear hca hcb hcc hba hbb hbc hsb'
 go_enter func182,ntmps182
 go_wp2_with (go_at_call 204;refine (hM.out _).mono ?_;rintro e w1 ⟨rfl,hb1⟩;have hP1:=hP.out.below hb1 hz.out.2;obtain ⟨z0,z1,z2,z3,f0,f1,f2,f3⟩:=hP1.cells;have hl:=hP1.lt)
 exact bodyPost_ret (v:=.tuple #[.agg #[.int .u64 x.vh,.int .u64 x.vl,.int .u64 x.mh,.int .u64 x.ml],.int .i64 0]) (by simp [results,results182,go_sem,z0,z1,z2,z3,hl]) rfl ⟨rfl,iW (hbw.out.trans (hb1.mono (by have:=hz.out;omega))) (by have:=hz.out;omega)⟩
theorem EI (y:Int) (hw:aj y=true):(.agg #[.int .u64 (aX (eN y)),.int .u64 (aP (eN y))]:Value)=nA (dK y.toNat y.toNat):=by
 have hw':=(aA y).1 hw
 have hc:eN y=y.toNat:=by unfold eN;rw [if_neg (by omega)];omega
 obtain ⟨e,h1,h2⟩:=ma ⟨y.toNat,by omega⟩
 simp only at e h1 h2
 rw [hc,vU,←e]
 obtain ⟨a,a0⟩:=h1
 obtain ⟨b,b0⟩:=h2
 unfold nA nv
 rw [show (((aX y.toNat).toNat*18446744073709551616+(aP y.toNat).toNat) / 18446744073709551616:Nat)=(aX y.toNat).toNat by omega,show (((aX y.toNat).toNat*18446744073709551616+(aP y.toNat).toNat) % 18446744073709551616:Nat)=(aP y.toNat).toNat by omega,Int.toNat_of_nonneg a,Int.toNat_of_nonneg b]
theorem Bf (n:Nat) (y:Int) (w:World) (hw:aj y=true) (hn:n<2 ^ y.toNat):
  Calls prog 183 #[nA n,.int .i64 y] w fun e w'=>e=.returned (.tuple #[zq (py n (dK y.toNat y.toNat)),.int .i64 0])∧Below w.heap.size w w':=by
 have hM:=aa (fun W=>uF n (dK y.toNat y.toNat) y W hw hn qI)
 have hK:=aa (fun W=>mX y W)
 rw [EI y hw] at hK
 unfold nA at hM hK ⊢
 generalize py n (dK y.toNat y.toNat)=x at hM ⊢
 generalize ((n / 18446744073709551616:Nat):Int)=a at hM ⊢
 generalize ((n % 18446744073709551616:Nat):Int)=b at hM ⊢
 generalize ((dK y.toNat y.toNat / 18446744073709551616:Nat):Int)=c at hM hK
 generalize ((dK y.toNat y.toNat % 18446744073709551616:Nat):Int)=d at hM hK
 clear hw hn
 obtain ⟨wa,hwa,hsa,hba,hca,-⟩:=ak w #[.int .u64 a,.int .u64 b] 61
 obtain ⟨wc,hwc,hsc,hbc,hcc,-⟩:=ak wa #[.int .u64 0,.int .u64 0,.int .u64 0,.int .u64 0] 63
 have hP:=aa (show fl wc wa.heap.size 0 0 0 0 by rw [←hwc];exact heap_alloc_new wa _)
 have x0:wc.cell? ⟨w.heap.size,0,none⟩=some (.int .u64 a):=(bH hbc w.heap.size 0 (by omega)).trans (hca 0)
 have x1:wc.cell? ⟨w.heap.size,1,none⟩=some (.int .u64 b):=(bH hbc w.heap.size 1 (by omega)).trans (hca 1)
 have hz:w.heap.size<wc.heap.size:=by omega
 have hz1:=aa (show wa.heap.size<wc.heap.size∧w.heap.size≤wa.heap.size by omega)
 have hbw:=aa (hba.trans (hbc.mono (by omega)))
 rw [hsa] at hP hz1
 replace hsc:=aa hsc
 clear hca hcc hba hbc
 go_enter func183,ntmps183
 go_wp2_with fail
 go_region_with (first|(go_at_call 162;refine (hK.out _).mono ?_;rintro e w1 ⟨rfl,hb1⟩;have hb1':Below wc.heap.size wc w1:=(Hf _ _).drew.trans hb1;have v0:=(hb1'.cell (p:=⟨w.heap.size,0,none⟩) hz).trans x0;have v1:=(hb1'.cell (p:=⟨w.heap.size,1,none⟩) hz).trans x1)|(go_at_call 204;refine (hM.out _).mono ?_;rintro e w2 ⟨rfl,hb2⟩;have hb3:=hb1'.trans (hb2.mono hb1'.size);have hP1:=hP.out.below hb3 hz1.out.1;obtain ⟨z0,z1,z2,z3,f0,f1,f2,f3⟩:=hP1.cells;have hl:=hP1.lt))
 all_goals
  go_wp2
  exact bodyPost_ret (v:=.tuple #[.agg #[.int .u64 x.vh,.int .u64 x.vl,.int .u64 x.mh,.int .u64 x.ml],.int .i64 0]) (by simp [results,results183,go_sem,z0,z1,z2,z3,hl]) rfl ⟨rfl,iW (hbw.out.trans (hb3.mono (by have:=hz1.out;omega))) (by have:=hz1.out;omega)⟩
theorem xW (n k:Nat) (y:Int) (w:World) (hw:aj y=true) (hn:n<2 ^ y.toNat) (hk:(k:Int)≤y):
  Calls prog 181 #[nA n,.int .i64 (k:Int),.int .i64 y] w fun e w'=>e=.returned (.tuple #[zq (py n (dK k y.toNat)),.int .i64 0])∧Below w.heap.size w w':=by
 have hw':=(aA y).1 hw
 have hM:=aa (fun W=>uF n (dK k y.toNat) y W hw hn qI)
 have hK:=aa (fun W=>sA k y.toNat W (by omega) (by omega) (by omega))
 rw [Int.toNat_of_nonneg (show 0≤y by omega)] at hK
 have hW:=aa (fun W=>nJ y W)
 rw [hw] at hW
 unfold nA at hM ⊢
 generalize py n (dK k y.toNat)=x at hM ⊢
 generalize ((n / 18446744073709551616:Nat):Int)=a at hM ⊢
 generalize ((n % 18446744073709551616:Nat):Int)=b at hM ⊢
 generalize ((dK k y.toNat / 18446744073709551616:Nat):Int)=c at hM hK
 generalize ((dK k y.toNat % 18446744073709551616:Nat):Int)=d at hM hK
 have q0:decide ((k:Int)<0)=false:=decide_eq_false (by omega)
 have q1:decide (y<(k:Int))=false:=decide_eq_false (by omega)
 clear hw hn hk hw'
 obtain ⟨wa,hwa,hsa,hba,hca,-⟩:=ak w #[.int .u64 a,.int .u64 b] 61
 obtain ⟨wc,hwc,hsc,hbc,hcc,-⟩:=ak wa #[.int .u64 0,.int .u64 0,.int .u64 0,.int .u64 0] 63
 have hP:=aa (show fl wc wa.heap.size 0 0 0 0 by rw [←hwc];exact heap_alloc_new wa _)
 have x0:wc.cell? ⟨w.heap.size,0,none⟩=some (.int .u64 a):=(bH hbc w.heap.size 0 (by omega)).trans (hca 0)
 have x1:wc.cell? ⟨w.heap.size,1,none⟩=some (.int .u64 b):=(bH hbc w.heap.size 1 (by omega)).trans (hca 1)
 have hz:w.heap.size<wc.heap.size:=by omega
 have hz1:=aa (show wa.heap.size<wc.heap.size∧w.heap.size≤wa.heap.size by omega)
 have hbw:=aa (hba.trans (hbc.mono (by omega)))
 rw [hsa] at hP hz1
 replace hsc:=aa hsc
 clear hca hcc hba hbc
 go_enter func181,ntmps181
 go_wp2_with (go_at_call 119;refine (hW.out _).mono ?_;rintro e w0 ⟨rfl,hb0⟩)
 have u0:=(hb0.cell (p:=⟨w.heap.size,0,none⟩) hz).trans x0
 have u1:=(hb0.cell (p:=⟨w.heap.size,1,none⟩) hz).trans x1
 have hz0:=He hz hb0.size
 go_region_with (first|(go_at_call 118;refine (hK.out _).mono ?_;rintro e w1 ⟨rfl,hb1⟩;have hb1':Below w0.heap.size w0 w1:=(Hf _ _).drew.trans hb1;have v0:=(hb1'.cell (p:=⟨w.heap.size,0,none⟩) hz0).trans u0;have v1:=(hb1'.cell (p:=⟨w.heap.size,1,none⟩) hz0).trans u1)|(go_at_call 204;refine (hM.out _).mono ?_;rintro e w2 ⟨rfl,hb2⟩;have hb3:=hb0.trans ((hb1'.trans (hb2.mono hb1'.size)).mono hb0.size);have hP1:=hP.out.below hb3 hz1.out.1;obtain ⟨z0,z1,z2,z3,f0,f1,f2,f3⟩:=hP1.cells;have hl:=hP1.lt))
 all_goals
  go_wp2
  exact bodyPost_ret (v:=.tuple #[.agg #[.int .u64 x.vh,.int .u64 x.vl,.int .u64 x.mh,.int .u64 x.ml],.int .i64 0]) (by simp [results,results181,go_sem,z0,z1,z2,z3,hl]) rfl ⟨rfl,iW (hbw.out.trans (hb3.mono (by have:=hz1.out;omega))) (by have:=hz1.out;omega)⟩
section
open Go.RowKit Go.Lib
theorem gX {hi lo:Int} (h1:aI hi) (h2:aI lo):(decDigits (nv hi lo)).length≤39:=jC 38 _ (by have:=pi h1 h2;omega)
theorem iX {n:Int} (h0:0≤n) (h1:n≤9223372036854775807):(itoa n).length≤21:=itoa_length_le n (by omega) h1
theorem xX (k:Int) (x:Pt) (len:Int) (w:World) (hx:em x) (h0:0≤len) (h1:len≤9223372036854775807) (hp:jD w) (hpl:3<w.heap.size):
  Calls prog 77 #[.int .u8 k,zq x,.int .i64 len] w fun e w'=>e=.returned (.string ⟨(gT k x len).toArray⟩)∧Below w.heap.size w w':=by
 obtain ⟨a1,a2,a3,a4⟩:=hx
 have t1:=gX a1 a2
 have t2:=gX a3 a4
 have t3:=iX h0 h1
 have hT1:=aa (fun W=>kF x.vh x.vl W a1 a2)
 have hT2:=aa (fun W=>kF x.mh x.ml W a3 a4)
 have hIt:=aa (fun W (hW:Below w.heap.size w W)=>AZ len W h0 h1 (hp.below hW hpl))
 obtain ⟨wa,hwa,hsa,hba,hca,-⟩:=ak w #[.int .u64 x.vh,.int .u64 x.vl,.int .u64 x.mh,.int .u64 x.ml] 63
 obtain ⟨y0,y1,y2,y3⟩:=wZ hca
 have hbw:=aa hba
 have hz:=aa (show w.heap.size≤wa.heap.size by omega)
 have hlt:w.heap.size<wa.heap.size:=by omega
 replace hsa:=aa hsa
 have hpt:gT k x len=if k=1 then decDigits (nv x.vh x.vl) else if k=2 then decDigits (nv x.vh x.vl)++47::itoa len else decDigits (nv x.vh x.vl)++(32::38::38::38::32::decDigits (nv x.mh x.ml)):=rfl
 rw [hpt]
 clear hpt hca hba a1 a2 a3 a4 hp hpl h0 h1
 generalize decDigits (nv x.vh x.vl)=T1 at*
 generalize decDigits (nv x.mh x.ml)=T2 at*
 generalize itoa len=T3 at*
 have z1:¬9223372036854775807<T1.length+1:=by omega
 have z2:¬9223372036854775807<T1.length+1+T3.length:=by omega
 have z3:¬9223372036854775807<T1.length+5:=by omega
 have z4:¬9223372036854775807<T1.length+5+T2.length:=by omega
 by_cases h1:k=1
 ·subst h1
  rw [if_pos rfl]
  go_enter func77,ntmps77
  go_wp2_with (go_at_call 78;refine (hT1.out _).mono ?_;rintro e w1 ⟨rfl,hb1⟩)
  go_ret
  exact ⟨rfl,hbw.out.trans (hb1.mono hz.out)⟩
 ·have e1:(k==1)=false:=by simpa using h1
  rw [if_neg h1]
  by_cases h2:k=2
  ·subst h2
   rw [if_pos rfl]
   go_enter func77,ntmps77
   go_wp2_with (first|(go_at_call 78;refine (hT1.out _).mono ?_;rintro e w1 ⟨rfl,hb1⟩;have hb2:=hbw.out.trans (hb1.mono hz.out))|(go_at_call 80;refine (hIt.out _ hb2).mono ?_;rintro e w2 ⟨rfl,hb3⟩))
   go_ret
   exact ⟨by rw [show (⟨#[47]⟩:ByteArray)=⟨[47].toArray⟩ from rfl,gp,gp,HP];rfl,hb2.trans (hb3.mono hb2.size)⟩
  ·have e2:(k==2)=false:=by simpa using h2
   rw [if_neg h2]
   go_enter func77,ntmps77
   have kk:=aE (show Below wa.heap.size wa wa from Hf _ _) (Hh _)
   go_wp2_with fail
   refine bV ?_
   repeat (any_goals (first|go_big_quiet_step (first|(go_at_call 78;with_reducible exact Hi (hT1.out _))|(go_at_call 78;with_reducible exact Hi (hT2.out _)))|quiet_step (first|(go_at_call 78;with_reducible exact Hi (hT1.out _))|(go_at_call 78;with_reducible exact Hi (hT2.out _)))))
   refine wpQuiet_nil ?_
   intro w5 hw5
   replace hw5:=ac hw5
   go_wp2
   go_ret
   exact ⟨by rw [show (⟨#[32,38,38,38,32]⟩:ByteArray)=⟨[32,38,38,38,32].toArray⟩ from rfl,gp,gp,HP];rfl,hbw.out.trans (hw5.mono hz.out)⟩
end
theorem pL (x y c:Nat) (hc:c≤1) (w:World):(callFunc 232 #[.int .u64 x,.int .u64 y,.int .u64 c]).run prog w=
   .ok (.value (.tuple #[.int .u64 (((x+y+c) % 18446744073709551616:Nat):Int),.int .u64 (((x+y+c) / 18446744073709551616:Nat):Int)])) w:=by
 rw [run_callFunc_extern func232 (by kernel_rfl) (by kernel_rfl) (by kernel_rfl) (e:=add64Entry) (by kernel_rfl),run_add64 x y c (by omega) (by omega) (by omega) (by omega)]
 simp only [Result.andThen]
 congr 5<;>omega
def kX (H L b d:Nat):Nat:=(H*18446744073709551616+L)*b+d
theorem xY (H L b d:Nat) (hH:H<18446744073709551616) (hL:L<18446744073709551616) (hb:b≤16) (hd:d<18446744073709551616) (w:World):
  Calls prog 202 #[.agg #[.int .u64 H,.int .u64 L],.int .u64 b,.int .u64 d] w fun e w'=>e=.returned (.tuple #[.agg #[.int .u64 ((kX H L b d / 18446744073709551616 % 18446744073709551616:Nat):Int),.int .u64 ((kX H L b d % 18446744073709551616:Nat):Int)],.bool (decide (kX H L b d<340282366920938463463374607431768211456))])∧Below w.heap.size w w':=by
 obtain ⟨wa,hwa,hsa,hba,hca,-⟩:=ak w #[.int .u64 (H:Int),.int .u64 (L:Int)] 61
 obtain ⟨wb,hwb,hsb,hbb,hcb,hfb⟩:=ak wa #[.int .u64 0,.int .u64 0] 61
 have hw:=aa (hba.trans (hbb.mono (by omega)))
 have x0:wb.cell? ⟨w.heap.size,0,none⟩=some (.int .u64 H):=(bH hbb w.heap.size 0 (by omega)).trans (hca 0)
 have x1:wb.cell? ⟨w.heap.size,1,none⟩=some (.int .u64 L):=(bH hbb w.heap.size 1 (by omega)).trans (hca 1)
 have z0:wb.cell? ⟨wa.heap.size,0,none⟩=some (.int .u64 0):=hcb 0
 have z1:wb.cell? ⟨wa.heap.size,1,none⟩=some (.int .u64 0):=hcb 1
 have f0:=hfb 0
 have f1:=hfb 1
 have hle:w.heap.size≤wa.heap.size:=by omega
 have hl1:w.heap.size<wb.heap.size:=by omega
 have hl2:wa.heap.size<wb.heap.size:=by omega
 have hM1:=aa (fun W=>Tryz.bits_Mul64 L b hL (by omega) W)
 have hM2:=aa (fun W=>Tryz.bits_Mul64 H b hH (by omega) W)
 have hT:=aa (show kX H L b d=H*b*18446744073709551616+L*b+d from by unfold kX;rw [Nat.add_mul,Nat.mul_right_comm])
 have hLb:L*b≤L*16:=Nat.mul_le_mul_left _ hb
 have hHb:H*b≤H*16:=Nat.mul_le_mul_left _ hb
 generalize hQ:L*b=Q at hM1 hT hLb
 generalize hP:H*b=P at hM2 hT hHb
 generalize kX H L b d=T at hT ⊢
 obtain ⟨cr,hcr⟩:∃ cr,cr=Q / 18446744073709551616:=⟨_,rfl⟩
 obtain ⟨lo,hlo⟩:∃ lo,lo=Q % 18446744073709551616:=⟨_,rfl⟩
 obtain ⟨ov,hov⟩:∃ ov,ov=P / 18446744073709551616:=⟨_,rfl⟩
 obtain ⟨hi,hhi⟩:∃ hi,hi=P % 18446744073709551616:=⟨_,rfl⟩
 rw [←hcr,←hlo] at hM1
 rw [←hov,←hhi] at hM2
 have hA1:=fun W=>pL lo d 0 (by omega) W
 obtain ⟨l2,hl2'⟩:∃ l2,l2=(lo+d+0) % 18446744073709551616:=⟨_,rfl⟩
 obtain ⟨cc,hcc⟩:∃ cc,cc=(lo+d+0) / 18446744073709551616:=⟨_,rfl⟩
 rw [←hl2',←hcc] at hA1
 have hA2:=fun W=>pL hi cr cc (by omega) W
 obtain ⟨h2,hh2⟩:∃ h2,h2=(hi+cr+cc) % 18446744073709551616:=⟨_,rfl⟩
 obtain ⟨c2,hc2⟩:∃ c2,c2=(hi+cr+cc) / 18446744073709551616:=⟨_,rfl⟩
 rw [←hh2,←hc2] at hA2
 have e1:l2=T % 18446744073709551616:=by rw [hT.out];omega
 have e2:h2=T / 18446744073709551616 % 18446744073709551616:=by rw [hT.out];omega
 have e3:decide (T<340282366920938463463374607431768211456)=(decide ((ov:Int)=0)&&decide ((c2:Int)=0)):=by
  rw [hT.out,Hr]
  simp only [Hl,decide_eq_true_eq]
  omega
 rw [←e1,←e2,e3]
 clear e1 e2 e3 hcr hlo hov hhi hl2' hcc hh2 hc2 hLb hHb hQ hP hT
 replace hsa:=aa hsa
 replace hsb:=aa hsb
 clear hca hcb hba hbb hfb
 have hA1':∀ W,(callFunc 232 #[.int .u64 (lo:Int),.int .u64 (d:Int),.int .u64 0]).run prog W=.ok (.value (.tuple #[.int .u64 (l2:Int),.int .u64 (cc:Int)])) W:=hA1
 have hfin:=aa (show ∀ v v',Below w.heap.size w ((wb.setCell ⟨wa.heap.size,0,none⟩ v).setCell ⟨wa.heap.size,1,none⟩ v') from fun v v'=>(hw.out.setCell (p:=⟨wa.heap.size,0,none⟩) hle _).setCell (p:=⟨wa.heap.size,1,none⟩) hle _)
 clear hA1 hw hle
 have key:∀ (p1 p2:Bool),((ov:Int)==0)=p1→((c2:Int)==0)=p2→Calls prog 202 #[.agg #[.int .u64 H,.int .u64 L],.int .u64 b,.int .u64 d] w fun e w'=>e=.returned (.tuple #[.agg #[.int .u64 (h2:Int),.int .u64 (l2:Int)],.bool (p1&&p2)])∧Below w.heap.size w w':=by
  intro p1 p2 q1 q2
  cases p1<;>cases p2
  all_goals
   go_enter func202,ntmps202
   go_wp2_with (go_at_call 231;first|((with_reducible refine (hM1.out _).mono ?_);rintro e w' ⟨rfl,rfl⟩)|((with_reducible refine (hM2.out _).mono ?_);rintro e w' ⟨rfl,rfl⟩))
   refine bodyPost_ret (v:=.tuple #[.agg #[.int .u64 (h2:Int),.int .u64 (l2:Int)],.bool _]) (by simp [results,results202,go_sem,z0,z1]) rfl ⟨rfl,hfin.out _ _⟩
 have h:=key _ _ rfl rfl
 have e:((ov:Int)==0&&(c2:Int)==0)=(decide ((ov:Int)=0)&&decide ((c2:Int)=0)):=rfl
 rw [e] at h
 exact h
theorem pM {n:Nat} {wz W:World} (h:Below n wz W):Below n wz W∧∀ b o,b<n→W.cell? ⟨b,o,none⟩=wz.cell? ⟨b,o,none⟩:=⟨h,(ah h).1⟩
theorem bS {B g:Nat} {a w:World} (h:Below B a w) (hg:B≤g) (v0 v1:Value):Below B a ((w.setCell ⟨g,0,none⟩ v0).setCell ⟨g,1,none⟩ v1):=(h.setCell (p:=⟨g,0,none⟩) hg _).setCell (p:=⟨g,1,none⟩) hg _
theorem Bg (hex:Bool) (t:ByteArray) (w:World) (ht:t.size≤9223372036854775807):Calls prog 201 #[.string t,.string ⟨(aG hex).toArray⟩] w fun e w'=>e=.returned (.string ⟨(Lib.trimS t.data.toList (aG hex)).toArray⟩)∧Below w.heap.size w w':=by
 have h:=Any.strings_Trim_laid Tryz.lays160 (by kernel_rfl) t ⟨(aG hex).toArray⟩ w ht (by cases hex<;>decide) (by
  intro j b hb
  have hm:b∈aG hex:=List.mem_of_getElem? hb
  have:∀ c∈aG hex,c.toNat<128:=by cases hex<;>decide
  exact this b hm)
 exact h
theorem nK (s:ByteArray) (w:World) (hs:s.size≤2000000) (hascii:∀ c∈s.data.toList,c.toNat<128):
  Calls prog 179 #[.string s] w fun e w'=>e=.returned (kx (dP s.data.toList))∧Below w.heap.size w w':=by
 obtain ⟨wa,hwa,hsa,hba,hca,hfa⟩:=ak w #[.int .u64 0,.int .u64 0] 61
 have hC:=fun W=>Tryz.strings_CutPrefix s ⟨#[48,120]⟩ W
 obtain ⟨hex,hhex⟩:∃ hex,hex=Lib.hasPrefix s.data.toList [48,120]:=⟨_,rfl⟩
 obtain ⟨r,hr⟩:∃ r,r=(if hex then Lib.toLowerA (s.data.toList.drop 2) else s.data.toList):=⟨_,rfl⟩
 have hpar:dP s.data.toList=(if r= [] then .error 4 else if r.all (fun c=>(aG hex).contains c) then (if (dA hex r).2 then .ok (dA hex r).1 else .error 5) else .error 4):=by rw [hr,hhex];rfl
 obtain ⟨RES,hRES⟩:∃ RES,RES=dP s.data.toList:=⟨_,rfl⟩
 rw [←hRES]
 rw [hpar] at hRES
 replace hRES:=aa hRES
 have hC':Hid (∀ W,Calls prog 199 #[.string s,.string ⟨#[48,120]⟩] W fun e w'=>e=.returned (.tuple #[.string ⟨(Lib.trimPrefix s.data.toList [48,120]).toArray⟩,.bool hex])∧W=w'):=by rw [hhex];exact aa fun W=>(hC W).mono fun _ _ h=>⟨h.1,h.2.symm⟩
 have hrl:r.length≤2000000:=by
  have hsz:=Lib.size_eq s
  rw [hr]
  cases hex
  ·simp only [Hy,if_false];omega
  ·simp only [if_true,Lib.toLowerA,Hz,H1];omega
 clear hpar hC
 have hgo:=aa (fun W (hW:Below wa.heap.size wa W)=>hba.trans (hW.mono hba.size))
 replace hsa:=aa hsa
 replace hhex:=aa hhex
 replace hr:=aa hr
 have z0:=hca 0
 have z1:=hca 1
 have f0:=hfa 0
 have f1:=hfa 1
 have hla:w.heap.size<wa.heap.size:=by have:=hsa.out;omega
 simp at z0 z1
 clear hca hfa hba
 go_enter func179,ntmps179
 go_upto_if 19 with (go_at_call 199;refine (hC'.out _).mono ?_;rintro e w' ⟨rfl,rfl⟩)
 go_cut [0,4,5] (fun tv dv bv wx=>∃ t:ByteArray,tv=.string t∧dv=.string ⟨(aG hex).toArray⟩∧bv=.int .u64 (dz hex:Int)∧Hid (t.data.toList=r)∧Hid (Below wa.heap.size wa wx))
 case first=>
  cases hex with
  |false=>
   go_wp2
   go_meet
   exact ⟨s,rfl,rfl,rfl,aa hr.out.symm,aa (Hf _ _)⟩
  |true=>
   have ht:Lib.trimPrefix s.data.toList [48,120]=s.data.toList.drop 2:=by unfold Lib.trimPrefix;rw [←hhex.out];rfl
   have hL0:=(Tryz.strings_ToLower_ascii ⟨(s.data.toList.drop 2).toArray⟩ wa (by
    show (s.data.toList.drop 2).toArray.size≤_
    have:=Lib.size_eq s
    simp only [List.size_toArray,H1];omega) (fun j b hb=>hascii b (List.mem_of_mem_drop (List.mem_of_getElem? hb))))
   have hL:Hid (Calls prog 200 #[.string ⟨(Lib.trimPrefix s.data.toList [48,120]).toArray⟩] wa fun e w'=>e=.returned (.string ⟨(Lib.toLowerA (s.data.toList.drop 2)).toArray⟩)∧Below wa.heap.size wa w'):=by rw [ht];exact aa hL0
   clear hL0 ht
   go_wp2_with (go_at_call 200;refine hL.out.mono ?_;rintro e w4 ⟨rfl,hb4⟩)
   go_meet
   exact ⟨_,rfl,rfl,rfl,aa hr.out.symm,aa hb4⟩
 case rest=>
  obtain ⟨t,rfl,rfl,rfl,htr,hb1⟩:=hcut
  obtain ⟨w1,rfl⟩:∃ w1:World,w1=wc:=⟨_,rfl⟩
  have htz:t.size≤2000000:=by rw [Lib.size_eq,htr.out];exact hrl
  have hT:=aa (Bg hex t w1 (by omega))
  rw [htr.out] at hT
  have hb1z:=hb1.out.size
  have hl1:=He hla hb1z
  have kk:=ah hb1.out
  have z0':=(kk.1 _ 0 hla).trans z0
  have z1':=(kk.1 _ 1 hla).trans z1
  have f0':=(kk.2 _ 0 hla).trans f0
  have f1':=(kk.2 _ 1 hla).trans f1
  clear kk z0 z1 f0 f1
  have hbad:∀ W n,RES=.error n→Below wa.heap.size wa W→kx RES=.tuple #[.agg #[.int .u64 0,.int .u64 0],.int .i64 n]∧∀ v v',Below w.heap.size w ((W.setCell ⟨w.heap.size,0,none⟩ v).setCell ⟨w.heap.size,1,none⟩ v'):=fun W n h hW=>⟨by rw [h];rfl,fun v v'=>((hgo.out W hW).setCell (p:=⟨w.heap.size,0,none⟩) (Hh _) _).setCell (p:=⟨w.heap.size,1,none⟩) (Hh _) _⟩
  replace hbad:=aa hbad
  by_cases hr0:r= []
  ·have hem:t.toList.isEmpty=true:=by rw [Lib.toList_data,htr.out,hr0];rfl
   have hR:RES=.error 4:=by rw [hRES.out,if_pos hr0]
   replace hR:=aa hR
   have hB:=hbad.out w1 4 hR.out hb1.out
   replace hb1:=aa hb1
   go_wp2
   exact bodyPost_ret (v:=.tuple #[.agg #[.int .u64 0,.int .u64 0],.int .i64 4]) (by simp [results,results179,go_sem,z0',z1']) rfl ⟨by rw [hB.1],hB.2 _ _⟩
  ·have hem:t.toList.isEmpty=false:=by rw [Lib.toList_data,htr.out];cases r with|nil=>exact absurd rfl hr0|cons _ _=>rfl
   have hnil:=wX r (aG hex)
   cases hall:r.all (fun c=>(aG hex).contains c) with
   |false=>
    have hR:RES=.error 4:=by rw [hRES.out,if_neg hr0,hall,if_neg (by simp)]
    have hB:=aa (fun W=>hbad.out W 4 hR)
    have hTn:¬(⟨(Lib.trimS r (aG hex)).toArray⟩:ByteArray).toList= []:=by
     rw [Lib.toList_data]
     intro h
     have:=hnil.1 (by simpa using h)
     rw [hall] at this;cases this
    have hTb:((⟨(Lib.trimS r (aG hex)).toArray⟩:ByteArray).toList== [])=false:=beq_eq_false_iff_ne.2 hTn
    have hTe:(⟨(Lib.trimS r (aG hex)).toArray⟩:ByteArray).toList.isEmpty=false:=by
     cases h:(⟨(Lib.trimS r (aG hex)).toArray⟩:ByteArray).toList.isEmpty with
     |false=>rfl
     |true=>exact absurd (List.isEmpty_iff.1 h) hTn
    clear hbad hnil hRES hR
    generalize (⟨(Lib.trimS r (aG hex)).toArray⟩:ByteArray)=tt at hT hTn hTb hTe
    go_wp2_with (go_at_call 201;refine hT.out.mono ?_;rintro e w2 ⟨rfl,hb2⟩;have kb2:=ah hb2;have q2:=He hl1 hb2.size;have k0:=(kb2.1 _ 0 hl1).trans z0';have k1:=(kb2.1 _ 1 hl1).trans z1';have g0:=(kb2.2 _ 0 hl1).trans f0';have g1:=(kb2.2 _ 1 hl1).trans f1')
    have hB2:=hB.out w2 (hb1.out.trans (hb2.mono hb1z))
    exact bodyPost_ret (v:=.tuple #[.agg #[.int .u64 0,.int .u64 0],.int .i64 4]) (by simp [results,results179,go_sem,k0,k1]) rfl ⟨by rw [hB2.1],hB2.2 _ _⟩
   |true=>
    have hTn:(⟨(Lib.trimS r (aG hex)).toArray⟩:ByteArray).toList= []:=by
     rw [Lib.toList_data,hnil.2 hall]
    have hTe:(⟨(Lib.trimS r (aG hex)).toArray⟩:ByteArray).toList.isEmpty=true:=by rw [hTn];rfl
    have hTb:((⟨(Lib.trimS r (aG hex)).toArray⟩:ByteArray).toList== [])=true:=by rw [hTn];rfl
    have hR:RES=if (dA hex r).2 then .ok (dA hex r).1 else .error 5:=by rw [hRES.out,if_neg hr0,hall,if_pos rfl]
    replace hR:=aa hR
    clear hbad hnil hRES
    generalize (⟨(Lib.trimS r (aG hex)).toArray⟩:ByteArray)=tt at hT hTn hTb hTe
    go_wp2_with (go_at_call 201;refine hT.out.mono ?_;rintro e w2 ⟨rfl,hb2⟩;have kb2:=ah hb2;have q2:=He hl1 hb2.size;have k0:=(kb2.1 _ 0 hl1).trans z0';have k1:=(kb2.1 _ 1 hl1).trans z1';have g0:=(kb2.2 _ 0 hl1).trans f0';have g1:=(kb2.2 _ 1 hl1).trans f1')
    have hq:=aa (show dx w2 w.heap.size 0 0 from ⟨q2,k0,k1,g0,g1⟩)
    have hbw:=aa (hgo.out w2 (hb1.out.trans (hb2.mono hb1z)))
    have hdg:=aa (fun (k:Nat) (hk:k<t.size)=>show (t[k].toNat<128)∧∃ d:Nat,Lib.indexByte (aG hex) t[k]=(d:Int)∧d<16∧(dA hex (r.take (k+1)))=((((dA hex (r.take k)).1*dz hex+d) % bc),(dA hex (r.take k)).2&&decide ((dA hex (r.take k)).1*dz hex+d<bc)) from by
     have hlr:k<r.length:=by rw [←htr.out,←Lib.size_eq];exact hk
     have e:r[k]=t[k]:=by
      have:r[k]? =some t[k]:=by rw [←htr.out,Hn (by rw [←Lib.size_eq];exact hk)];rfl
      rw [Hn hlr] at this
      injection this
     have hin:(aG hex).contains r[k]=true:=(Hx.1 hall) _ (Ho hlr)
     have hmem:r[k]∈aG hex:=by simpa using hin
     have hd:=D5 hmem
     have h128:∀ c∈aG hex,c.toNat<128:=by cases hex<;>decide
     have hb16:dz hex≤16:=by cases hex<;>decide
     refine ⟨by rw [←e];exact h128 _ hmem,D4 hex r[k],by rw [←e];exact hd.1,by omega,?_⟩
     rw [wW hex r hlr]
     rfl)
    have hb16:dz hex≤16:=by cases hex<;>decide
    have hrt:r.take t.size=r:=Ia (by rw [←htr.out,←Lib.size_eq];exact Hh _)
    have htl:t.size≤9223372036854775807:=by omega
    clear kb2 hT hTn hTb hTe hem hr hhex z0' z1' f0' f1' k0 k1 g0 g1 hb1 hb2 hb1z hl1 hrl hall hC' hgo
    replace hrt:=aa hrt
    go_loopw [9] (fun f wr=>∃ k:Nat,k≤t.size∧f=.bool (dA hex (r.take k)).2∧Hid (wr.heap[w2.heap.size+1]? =some (.stringIter t k))∧Hid (dx wr w.heap.size 0 0)∧Hid (dx wr w2.heap.size (((dA hex (r.take k)).1 / 18446744073709551616:Nat):Int) (((dA hex (r.take k)).1 % 18446744073709551616:Nat):Int))∧Hid (Below w.heap.size w wr)) (fun _ wr=>t.size-wr.iterPos (w2.heap.size+1))
    case atStart=>
     have hbn:=dx.new w2 0 0 61
     refine ⟨0,Hm _,rfl,?_,?_,?_,?_⟩
     ·have:=World.iter_heap (w2.alloc (.cells #[.int .u64 0,.int .u64 0] 61)) t 0
      exact aa (by simpa using this)
     ·exact aa ((hq.out.alloc _).alloc _)
     ·rw [show dA hex (r.take 0)=(0,true) from rfl]
      exact aa (by have:=hbn.alloc (.stringIter t 0);simp only [Nat.zero_div,Nat.zero_mod];exact this)
     ·exact aa ((hbw.out.alloc hbw.out.size _).alloc (by have:=hbw.out.size;simp;omega) _)
    case round=>
     clear hq hbw
     obtain ⟨k,hk,rfl,hit,hq,hnb,hbw⟩:=hrel
     by_cases hlt:k<t.size
     ·obtain ⟨hasc,d,hdi,hd16,hacc⟩:=hdg.out k hlt
      have hnx:∀ ty,(Instr.next (.pointer (some ⟨w2.heap.size+1,0,none⟩)) true ty).run prog wr=_:=fun ty=>Lib.run_next_ascii_at wr (w2.heap.size+1) t k ty hit.out hlt hasc
      have hit2:=aa (Lib.iterAt_heap wr (w2.heap.size+1) t k (k+1) hit.out)
      obtain ⟨wz,hwz⟩:∃ wz,wr.iterAt (w2.heap.size+1) t (k+1)=wz:=⟨_,rfl⟩
      have hbk:Below (w2.heap.size+1) wr wz:=by rw [←hwz];exact Lib.below_iterAt (Hf _ _) (Hh _) _ _
      rw [hwz] at hnx hit2
      have hq2:=aa (hq.out.below hbk (by have:=hq.out.lt;omega))
      have hnb2:=aa (hnb.out.below hbk (by omega))
      have hbz:=aa (hbw.out.trans (hbk.mono (by omega)))
      have hKlt:w2.heap.size+1<wz.heap.size:=(If.1 hit2.out).1
      have hn:=vz hex (r.take k)
      obtain ⟨n,hne⟩:∃ n,n=(dA hex (r.take k)).1:=⟨_,rfl⟩
      obtain ⟨ok,hok⟩:∃ ok,ok=(dA hex (r.take k)).2:=⟨_,rfl⟩
      rw [←hne,←hok] at hacc
      rw [←hne] at hn hnb2
      rw [←hok]
      have hT0:=fun W=>xY (n / 18446744073709551616) (n % 18446744073709551616) (dz hex) d (by unfold bc at hn;omega) (by omega) hb16 (by omega) W
      have hnv:kX (n / 18446744073709551616) (n % 18446744073709551616) (dz hex) d=n*dz hex+d:=by unfold kX;congr 2;omega
      rw [hnv] at hT0
      obtain ⟨zh,hzh⟩:∃ zh,zh=(((n*dz hex+d) / 18446744073709551616 % 18446744073709551616:Nat):Int):=⟨_,rfl⟩
      obtain ⟨zl,hzl⟩:∃ zl,zl=(((n*dz hex+d) % 18446744073709551616:Nat):Int):=⟨_,rfl⟩
      obtain ⟨fit,hfit⟩:∃ fit,fit=decide (n*dz hex+d<bc):=⟨_,rfl⟩
      rw [←hzh,←hzl] at hT0
      have hA1:=aa (show (((dA hex (r.take (k+1))).1 / 18446744073709551616:Nat):Int)=zh from by rw [hacc,hzh];show (((n*dz hex+d) % bc / 18446744073709551616:Nat):Int)=_;unfold bc;omega)
      have hA2:=aa (show (((dA hex (r.take (k+1))).1 % 18446744073709551616:Nat):Int)=zl from by rw [hacc,hzl];show (((n*dz hex+d) % bc % 18446744073709551616:Nat):Int)=_;unfold bc;omega)
      have hA3:=aa (show (dA hex (r.take (k+1))).2=(ok&&fit) from by rw [hacc,hfit])
      have hT1:∀ W,Calls prog 202 #[.agg #[.int .u64 ((n / 18446744073709551616:Nat):Int),.int .u64 ((n % 18446744073709551616:Nat):Int)],.int .u64 (dz hex:Int),.int .u64 (d:Int)] W fun e w'=>e=.returned (.tuple #[.agg #[.int .u64 zh,.int .u64 zl],.bool fit])∧Below W.heap.size W w':=fun W=>by rw [hfit];exact hT0 W
      clear hT0 hnv hzh hzl hfit hacc hne hok hn
      generalize ((n / 18446744073709551616:Nat):Int)=nh at hT1 hnb2
      generalize ((n % 18446744073709551616:Nat):Int)=nl at hT1 hnb2
      have hTm:=aa (fun (W:World) (hW:Below wz.heap.size wz W)=>(hT1 W).mono fun e w' h=>(⟨h.1,hW.trans (h.2.mono hW.size),h.2⟩:_∧Below wz.heap.size wz w'∧Below W.heap.size W w'))
      have hIR:=aa (fun (W:World)=>show Calls prog 203 #[.string ⟨(aG hex).toArray⟩,.int .i32 ((t[k].toNat:Nat):Int)] W fun e w'=>e=.returned (.int .i64 (d:Int))∧w'=W from by
       have:=Tryz.strings_IndexRune_ascii ⟨(aG hex).toArray⟩ ((t[k].toNat:Nat):Int) W (by omega) (by omega)
       rw [show ((t[k].toNat:Nat):Int).toNat.toUInt8=t[k] from by simp] at this
       rw [←hdi];exact this)
      have hwr:IntKind.u64.wrap (d:Int)=d:=IntWalk.u64_in _ (by omega)
      obtain ⟨hgl,n0,n1,e0,e1⟩:=hnb2.out
      clear hT1 hdg hdi hbk hbw hnb hq
      go_upto_region 12 with fail
      go_cut [12,13] (fun sp bv wx=>∃ g,sp=.pointer (some ⟨g,0,none⟩)∧bv=.bool fit∧wz.heap.size≤g∧Hid (dx wx g zh zl)∧Hid (Below wz.heap.size wz wx))
      case first=>
       go_region_held3 (fun w'=>Below wz.heap.size wz w'∧∀ b o,b<wz.heap.size→w'.cell? ⟨b,o,none⟩=wz.cell? ⟨b,o,none⟩) (first|exact pM (Hf _ _).drew|exact pM ((Hf _ _).drew.alloc (Hh _) _)|exact pM hb3|exact pM (hb3.alloc hb3.size _)|exact pM (bS (hb3.alloc hb3.size _) hb3.size _ _)|exact pM (bS hb3 (Hh _) _ _))
        (first|(go_at_call 203;refine (hIR.out _).mono ?_;rintro e w' ⟨rfl,rfl⟩)|(go_at_call 202;refine (hTm.out _ (by first|exact (Hf _ _).drew|exact (Hf _ _).drew.alloc (Hh _) _)).mono ?_;rintro e w3 ⟨rfl,hb3,hb4⟩;have kb4:=iF hb4))
       all_goals go_wp2
       all_goals go_meet
       all_goals first
        |exact ⟨_,rfl,rfl,hb3.size,aa (dx.new w3 zh zl _),aa (hb3.alloc hb3.size _)⟩
        |exact ⟨_,rfl,rfl,Hh _,aa (((dx.new wz.drew 0 0 61).below hb4 (dx.new wz.drew 0 0 61).lt).set zh zl),aa (bS hb3 (Hh _) _ _)⟩
      case rest=>
       obtain ⟨g,rfl,rfl,hgz,hng,hbx⟩:=hcut
       obtain ⟨wx,rfl⟩:∃ wx:World,wx=wc:=⟨_,rfl⟩
       obtain ⟨hgl2,a0,a1,-,-⟩:=hng.out
       have m5:=hnb2.out.below hbx.out hgl
       obtain ⟨l5,b0,b1,f50,f51⟩:=hnb2.out.below hbx.out hgl
       have hit3:=aa ((hbx.out.block _ hKlt).trans hit2.out)
       have hl0:=hq2.out.lt
       have hF:=aa (⟨by rw [Below.heap_setCell _ _ _ _ (show w2.heap.size+1≠w2.heap.size by omega),Below.heap_setCell _ _ _ _ (show w2.heap.size+1≠w2.heap.size by omega)];exact hit3.out,((hq2.out.below hbx.out hl0).far _ (by omega)).far _ (by omega),m5.set zh zl,bS (hbz.out.trans (hbx.out.mono hbz.out.size)) (Hs q2) _ _⟩:((wx.setCell ⟨w2.heap.size,0,none⟩ (.int .u64 zh)).setCell ⟨w2.heap.size,1,none⟩ (.int .u64 zl)).heap[w2.heap.size+1]? =some (.stringIter t (k+1))∧dx ((wx.setCell ⟨w2.heap.size,0,none⟩ (.int .u64 zh)).setCell ⟨w2.heap.size,1,none⟩ (.int .u64 zl)) w.heap.size 0 0∧dx ((wx.setCell ⟨w2.heap.size,0,none⟩ (.int .u64 zh)).setCell ⟨w2.heap.size,1,none⟩ (.int .u64 zl)) w2.heap.size zh zl∧Below w.heap.size w ((wx.setCell ⟨w2.heap.size,0,none⟩ (.int .u64 zh)).setCell ⟨w2.heap.size,1,none⟩ (.int .u64 zl)))
       clear m5 hnb2 hq2 hbz hng hbx hit2 hit3 n0 n1 e0 e1 hnx hTm hIR hwr
       cases ok
       all_goals
        replace hA3:=aa hA3.out
        go_wp2
        go_roundw
        case rel=>exact ⟨k+1,by omega,by rw [hA3.out];rfl,aa hF.out.1,aa hF.out.2.1,aa (by rw [hA1.out,hA2.out];exact hF.out.2.2.1),aa hF.out.2.2.2⟩
        case measure=>
         simp only [World.iterPos,hF.out.1,hit.out]
         omega
     ·obtain rfl:k=t.size:=by omega
      rw [hrt.out] at hnb ⊢
      have hnx:∀ ty,(Instr.next (.pointer (some ⟨w2.heap.size+1,0,none⟩)) true ty).run prog wr=_:=fun ty=>Lib.run_next_end_at wr (w2.heap.size+1) t t.size ty hit.out hlt
      obtain ⟨-,k0,k1,g0,g1⟩:=hq.out
      obtain ⟨-,n0,n1,-,-⟩:=hnb.out
      have hR':=hR.out
      clear hq hnb hit hdg
      cases hv:(dA hex r).2 with
      |true=>
       rw [hv,if_pos rfl] at hR'
       subst hR'
       go_wp2
       exact bodyPost_ret (v:=kx (.ok (dA hex r).1)) (by simp [results,results179,go_sem,k0,k1,kx]) rfl ⟨rfl,bS hbw.out (Hh _) _ _⟩
      |false=>
       rw [hv,if_neg (by simp)] at hR'
       subst hR'
       go_wp2
       exact bodyPost_ret (v:=kx (.error 5)) (by simp [results,results179,go_sem,k0,k1,kx]) rfl ⟨rfl,bS hbw.out (Hh _) _ _⟩
end Go.Proofs.YtiebolhmdhdagaaGreatDoor

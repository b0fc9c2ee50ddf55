import Derived.Laws.CopyOwn
import Derived.Test.YtiebolhmdhdagaaGreatDoorEwp04
import Derived.Deep.DeepCutAuto
set_option linter.all false
set_option maxHeartbeats 4000000
set_option maxRecDepth 100000
open Go.Proofs.Tryz
namespace Go.Proofs.YtiebolhmdhdagaaGreatDoor
open _root_.Nat renaming lt_of_lt_of_le→He, le_refl→Hh, zero_le→Hm, le_of_lt→Hs, zero_add→HS, pow_le_pow_right→Ic, testBit_two_pow_mul_add→Ig
open _root_.Go.RowKit.Below renaming refl→Hf
open _root_.Bool renaming false_and→Hg, true_and→Hk, and_eq_true→Hl, eq_iff_iff→Hr, false_eq_true→Hy
open _root_.Go.Calls renaming regrown_of→Hi
open _root_.List renaming getElem?_eq_getElem→Hn, getElem_mem→Ho, length_cons→Hp, all_eq_true→Hx, mem_cons_self→HE, length_take→HF, mem_cons_of_mem→HI, range→HJ, mem_range→HO, take_succ_eq_append_getElem→HR, drop_eq_getElem_cons→H4, cons_append→H6
open _root_.Option renaming bind_some→Hq, getD_some→H9
open _root_.Go.Sort renaming grow→Ht
open _root_.Int renaming eq_ofNat_of_zero_le→Hv, toNat_natCast→HG
open _root_.Array renaming getElem?_setIfInBounds→Ih
open Go.RowKit
section
def bF (x:Int) (j:Nat):Bool:=decide (x / 2 ^ j % 2=1)
def fM (hi lo:Int) (k j:Nat):Value:=.bool (if j<64 then decide (j<k)&&bF lo j else decide (j<64+k)&&bF hi (j-64))
def bi (hi lo:Int) (k:Nat):Array Value:=((HJ 128).map (fM hi lo k)).toArray
theorem bJ (hi lo:Int) (k j:Nat) (hj:j<128):(bi hi lo k)[j]? =some (fM hi lo k j):=by
 simp [bi,hj]
theorem aO (hi lo:Int) (k:Nat):(bi hi lo k).size=128:=by simp [bi]
theorem fN (hi lo:Int) (k:Nat):(bi hi lo k).all (·.oneCell')=true:=by
 simp [bi,fM,Value.oneCell',Hx]
theorem pg (hi lo:Int):bi hi lo 0=Tryz.zeroCells178:=by
 have h:bi hi lo 0=Array.replicate 128 (.bool false):=by
  apply Array.ext_getElem?
  intro j
  by_cases hj:j<128
  ·rw [bJ _ _ _ _ hj]
   by_cases h64:j<64<;>simp [fM,hj,h64]
  ·simp [bi,hj]
 exact h.trans (Eq.symm (by rfl))
theorem xq (hi lo:Int) {k:Nat} (hk:k<64):((bi hi lo k).setIfInBounds k (.bool (bF lo k))).setIfInBounds (64+k) (.bool (bF hi k))=bi hi lo (k+1):=by
 apply Array.ext_getElem?
 intro j
 by_cases hj:j<128
 ·rw [Ih,Ih,bJ _ _ _ _ hj,bJ _ _ _ _ hj]
  simp only [Array.size_setIfInBounds,aO]
  by_cases h1:64+k=j
  ·subst h1
   simp [fM,hj,hk]
   omega
  ·by_cases h2:k=j
   ·subst h2
    simp [fM,h1,hk]
    omega
   ·simp only [if_neg h1,if_neg h2,fM]
    by_cases h64:j<64
    ·have:(decide (j<k))=decide (j<k+1):=by rw [decide_eq_decide];omega
     simp [h64,this]
    ·have:(decide (j<64+k))=decide (j<64+(k+1)):=by rw [decide_eq_decide];omega
     simp [h64,this]
 ·have h:∀ a:Array Value,a.size=128→a[j]? =none:=fun a ha=>Array.getElem?_eq_none (by omega)
  rw [h _ (by simp [aO]),h _ (aO _ _ _)]
theorem fO (k:Nat):(0:Int)<2 ^ k:=Int.pow_pos (by decide)
theorem qF {x:Int} (h0:0≤x) (h1:x<18446744073709551616) (k:Nat):0≤x / 2 ^ k∧x / 2 ^ k<18446744073709551616:=
 ⟨Int.ediv_nonneg h0 (Int.le_of_lt (fO k)),Int.lt_of_le_of_lt (Int.ediv_le_self _ h0) h1⟩
theorem mS (x:Int) (k:Nat):x / 2 ^ (k+1)=x / 2 ^ k / 2:=by
 rw [Int.pow_succ,Int.ediv_ediv_of_nonneg (Int.le_of_lt (fO k))]
def Ae (v:Value):Sem Value:=Instr.loadAt 178 v
theorem ip (v:Value):Instr.loadAt 178 v=Ae v:=rfl
def kf (v u:Value):Sem Unit:=Instr.storeAt 178 v u
theorem fP (v u:Value):Instr.storeAt 178 v u=kf v u:=rfl
theorem mT:(prog.info? 178).map (·.size)=some 128:=by kernel_rfl
theorem iq {W:World} {g:Nat} {C:Array Value} {t:TypeId} {fr:Nat×Nat} (h:W.heap[g]? =some (.cells C t fr)) (hs:C.size=128):(Ae (.pointer (some ⟨g,0,none⟩))).run prog W=.ok (.agg C) W:=by
 unfold Ae
 simp only [Instr.loadAt,Instr.sureAddr,Sem.run_bind,Sem.run_pure,Result.andThen]
 exact run_loadVar_row W g t _ C fr _ h underlying178 rfl (by rw [hs];exact mT)
theorem dQ {W:World} {g:Nat} {C C':Array Value} {t:TypeId} (h:W.heap[g]? =some (.cells C t (0,0))) (hs:C.size=128) (hs':C'.size=128) (h1:C'.all (·.oneCell')=true):(kf (.pointer (some ⟨g,0,none⟩)) (.agg C')).run prog W=.ok () (W.setRow g C'):=by
 unfold kf
 simp only [Instr.storeAt,Instr.sureAddr,Sem.run_bind,Sem.run_pure,Result.andThen]
 exact run_storeVar_row W g t _ C C' h (by rw [hs'];exact mT) (by omega) h1
theorem kg {W:World} {g:Nat} {C C':Array Value} {t:TypeId} {fr:Nat×Nat} (h:W.heap[g]? =some (.cells C t fr)):(W.setRow g C').heap[g]? =some (.cells C' t fr):=by
 simp [World.setRow,Array.getElem?_modify,h]
theorem mU {W:World} {g b:Nat} {C':Array Value} (h:b≠g):(W.setRow g C').heap[b]? =W.heap[b]? :=by
 simp only [World.setRow,Array.getElem?_modify]
 rw [if_neg (Ne.symm h)]
attribute [local go_sem ↓] ip fP
theorem eZ (hi lo:Int) (w:World) (hh:aI hi) (hl:aI lo):Calls prog 137 #[.agg #[.int .u64 hi,.int .u64 lo]] w fun e w'=>e=.returned (.agg (bi hi lo 64))∧Below w.heap.size w w':=by
 obtain ⟨hh1,hh2⟩:=hh
 obtain ⟨hl1,hl2⟩:=hl
 go_enter func137,ntmps137
 go_wp2
 rw [←pg hi lo]
 go_loopw [4] (fun i wr=>∃ k:Nat,k≤64∧i=.int .i64 k∧wr=((w.alloc (.cells #[.int .u64 (hi / 2 ^ k),.int .u64 (lo / 2 ^ k)] 61)).alloc (.cells (bi hi lo 0) 178)).alloc (.cells (bi hi lo k) 178)) (fun i _=>64-(intOf i).toNat)
 case atStart=>exact ⟨0,Hm _,rfl,by simp⟩
 case round=>
  obtain ⟨k,hk,rfl,rfl⟩:=hrel
  have hs1:=aO hi lo k
  have hs0:=aO hi lo 0
  by_cases hlt:k<64
  ·have hltz:(k:Int)<64:=by omega
   have hsucc:=aa (xq hi lo hlt)
   obtain ⟨hx1,hx2⟩:=qF hh1 hh2 k
   obtain ⟨hy1,hy2⟩:=qF hl1 hl2 k
   have hxs:=mS hi k
   have hys:=mS lo k
   have hbx:bF hi k=decide (hi / 2 ^ k % 2=1):=rfl
   have hby:bF lo k=decide (lo / 2 ^ k % 2=1):=rfl
   rw [hbx,hby] at hsucc
   clear hbx hby
   generalize hi / 2 ^ k=x at*
   generalize lo / 2 ^ k=y at*
   have hc1:(bi hi lo k)[k]? =some (fM hi lo k k):=bJ _ _ _ _ (by omega)
   have hc2:(bi hi lo k)[64+k]? =some (fM hi lo k (64+k)):=bJ _ _ _ _ (by omega)
   replace hxs:=aa hxs
   replace hys:=aa hys
   go_wp2
   go_roundw
   case rel=>exact ⟨k+1,by omega,by go_num,by rw [hxs.out,hys.out,←hsucc.out];rfl⟩
   case measure=>simp [intOf];omega
  ·obtain rfl:k=64:=by omega
   generalize hi / 2 ^ 64=x
   generalize lo / 2 ^ 64=y
   obtain ⟨W,hW⟩:∃ W,((w.alloc (.cells #[.int .u64 x,.int .u64 y] 61)).alloc (.cells (bi hi lo 0) 178)).alloc (.cells (bi hi lo 64) 178)=W:=⟨_,rfl⟩
   have hb:Below w.heap.size w W:=by
    rw [←hW]
    exact (((Hf _ _).alloc (Hh _) _).alloc (by simp) _).alloc (by simp;omega) _
   have hg2:W.heap[w.heap.size+1+1]? =some (.cells (bi hi lo 64) 178 (0,0)):=by
    rw [←hW]
    have:=heap_alloc_last ((w.alloc (.cells #[.int .u64 x,.int .u64 y] 61)).alloc (.cells (bi hi lo 0) 178)) (.cells (bi hi lo 64) 178)
    simpa using this
   have hg1:W.heap[w.heap.size+1]? =some (.cells (bi hi lo 0) 178 (0,0)):=by
    rw [←hW]
    have:=heap_alloc_last (w.alloc (.cells #[.int .u64 x,.int .u64 y] 61)) (.cells (bi hi lo 0) 178)
    rw [Below.heap_alloc _ _ _ (by simp)]
    simpa using this
   have hld:=iq hg2 hs1
   have hst:=dQ hg1 hs0 hs1 (fN hi lo 64)
   have hg3:=kg (C':=bi hi lo 64) hg1
   have hb2:Below w.heap.size w (W.setRow (w.heap.size+1) (bi hi lo 64)):=below_setRow hb (by omega) _
   generalize W.setRow (w.heap.size+1) (bi hi lo 64)=W2 at hst hg3 hb2
   have hlv:=run_loadVar_row (P:=prog) W2 (w.heap.size+1) _ 178 (bi hi lo 64) _ _ hg3 underlying178 rfl (by rw [hs1];exact mT)
   replace hb2:=aa hb2
   clear hb hg1 hg2 hg3 hs1 hs0
   go_wp2
   exact bodyPost_ret (v:=.agg (bi hi lo 64)) (by simp [results,results137,asAddr,Result.andThen,hlv]) rfl ⟨rfl,hb2.out⟩
end
section
attribute [local go_sem ↓] ip fP
theorem CM (hi lo:Int) {j:Nat} (hj:j<64):(bi hi lo 64)[j]? =some (.bool (bF lo j)):=by
 rw [bJ _ _ _ _ (by omega)]
 simp [fM,hj]
theorem CN (hi lo:Int) {j:Nat} (hj:j<64):(bi hi lo 64)[64+j]? =some (.bool (bF hi j)):=by
 rw [bJ _ _ _ _ (by omega)]
 simp [fM,show ¬(64+j<64) by omega,show 64+j<128 by omega]
theorem rL {x:Int} (h0:0≤x) (h1:x<18446744073709551616) (t:Nat):x / 2 ^ t=x / 2 ^ (t+1)*2+(if bF x t then 1 else 0)∧0≤x / 2 ^ (t+1)∧x / 2 ^ (t+1)<9223372036854775808:=by
 have h:=mS x t
 obtain ⟨h2,h3⟩:=qF h0 h1 t
 unfold bF
 generalize x / 2 ^ t=y at*
 rw [h]
 by_cases hb:y % 2=1
 ·simp only [hb,decide_true,if_true];omega
 ·simp only [hb,decide_false,Hy,if_false];omega
theorem kj (hi lo:Int) (w:World) (hh:aI hi) (hl:aI lo):Calls prog 130 #[.agg (bi hi lo 64)] w fun e w'=>e=.returned (.agg #[.int .u64 hi,.int .u64 lo])∧Below w.heap.size w w':=by
 obtain ⟨hh1,hh2⟩:=hh
 obtain ⟨hl1,hl2⟩:=hl
 go_enter func130,ntmps130
 go_wp2
 go_loopw [4] (fun i wr=>∃ j:Nat,j≤64∧(∃ i':Int,i=.int .i64 i'∧i'=(j:Int)-1)∧wr=((w.alloc (.cells (bi hi lo 64) 178)).alloc (.cells #[.int .u64 0,.int .u64 0] 61)).alloc (.cells #[.int .u64 (hi / 2 ^ j),.int .u64 (lo / 2 ^ j)] 61)) (fun i _=>(intOf i+1).toNat)
 case atStart=>exact ⟨64,Hh _,⟨_,rfl,by decide⟩,by
  rw [show hi / 2 ^ 64=0 from Int.ediv_eq_zero_of_lt hh1 (by simpa using hh2),show lo / 2 ^ 64=0 from Int.ediv_eq_zero_of_lt hl1 (by simpa using hl2)]⟩
 case round=>
  obtain ⟨j,hj,⟨i',rfl,hi'⟩,rfl⟩:=hrel
  cases j with
  |succ t=>
   obtain rfl:i'=(t:Int):=by omega
   clear hi'
   have htz:(0:Int)≤(t:Int):=by omega
   have ht64:(t:Int)<64:=by omega
   obtain ⟨ex,hx1,hx2⟩:=rL hh1 hh2 t
   obtain ⟨ey,hy1,hy2⟩:=rL hl1 hl2 t
   have hc1:=CM hi lo (show t<64 by omega)
   have hc2:=CN hi lo (show t<64 by omega)
   generalize bF lo t=b1 at*
   generalize bF hi t=b2 at*
   generalize hi / 2 ^ (t+1)=x at*
   generalize lo / 2 ^ (t+1)=y at*
   replace ex:=aa ex
   replace ey:=aa ey
   cases b1 with
   |false=>
    cases b2 with
    |false=>
     go_wp2
     go_roundw
     case rel=>exact ⟨t,by omega,⟨_,rfl,rfl⟩,by rw [ex.out,ey.out];simp⟩
     case measure=>simp [intOf]
    |true=>
     go_wp2
     go_roundw
     case rel=>exact ⟨t,by omega,⟨_,rfl,rfl⟩,by rw [ex.out,ey.out];simp⟩
     case measure=>simp [intOf]
   |true=>
    cases b2 with
    |false=>
     go_wp2
     go_roundw
     case rel=>exact ⟨t,by omega,⟨_,rfl,rfl⟩,by rw [ex.out,ey.out];simp⟩
     case measure=>simp [intOf]
    |true=>
     go_wp2
     go_roundw
     case rel=>exact ⟨t,by omega,⟨_,rfl,rfl⟩,by rw [ex.out,ey.out];simp⟩
     case measure=>simp [intOf]
  |zero=>
   obtain rfl:i'= -1:=by omega
   simp only [Int.pow_zero,Int.ediv_one]
   generalize bi hi lo 64=C
   clear hi' hj
   go_wp2
   exact bodyPost_ret (v:=.agg #[.int .u64 hi,.int .u64 lo]) (by simp [results,results130,go_sem]) rfl ⟨rfl,(((Hf _ _).alloc (Hh _) _).alloc (by simp) _).alloc (by simp;omega) _⟩
end
section
attribute [local go_sem ↓] ip fP
theorem e9 (X j:Nat):bF (X:Int) j=X.testBit j:=by
 unfold bF
 rw [Nat.testBit_eq_decide_div_mod_eq,decide_eq_decide]
 have h:(X:Int) / 2 ^ j=((X / 2 ^ j:Nat):Int):=by simp
 rw [h]
 omega
theorem rM {x:Int} (h0:0≤x) (n j:Nat):bF (x % 2 ^ n) j=(decide (j<n)&&bF x j):=by
 obtain ⟨X,rfl⟩:=Hv h0
 have h:((X:Int) % 2 ^ n)=((X % 2 ^ n:Nat):Int):=by simp
 rw [h,e9,e9,Nat.testBit_mod_two_pow]
theorem ph (j:Nat):bF 0 j=false:=by simp [bF]
def js (lo:Int) (n:Nat):Int:=lo % 2 ^ min n 64
def jt (hi:Int) (n:Nat):Int:=hi % 2 ^ (n-64)
def mV (hi lo:Int) (n k j:Nat):Value:=.bool ((if j<64 then bF lo j else bF hi (j-64))&&(decide (k≤j) ||decide (j<n)))
def gQ (hi lo:Int) (n k:Nat):Array Value:=((HJ 128).map (mV hi lo n k)).toArray
theorem fQ (hi lo:Int) (n k j:Nat) (hj:j<128):(gQ hi lo n k)[j]? =some (mV hi lo n k j):=by simp [gQ,hj]
theorem dR (hi lo:Int) (n k:Nat):(gQ hi lo n k).size=128:=by simp [gQ]
theorem eM {a b:Array Value} (ha:a.size=128) (hb:b.size=128) (h:∀ j,j<128→a[j]? =b[j]?):a=b:=by
 apply Array.ext_getElem?
 intro j
 by_cases hj:j<128
 ·exact h j hj
 ·rw [Array.getElem?_eq_none (by omega),Array.getElem?_eq_none (by omega)]
theorem ur (hi lo:Int) (n:Nat):gQ hi lo n 0=bi hi lo 64:=eM (dR _ _ _ _) (aO _ _ _) fun j hj=>by
 rw [fQ _ _ _ _ _ hj,bJ _ _ _ _ hj]
 by_cases h:j<64<;>simp [mV,fM,h]
 omega
theorem us (hi lo:Int) (n:Nat) {k:Nat} (hk:k<128):(gQ hi lo n k).setIfInBounds k (.bool ((if k<64 then bF lo k else bF hi (k-64))&&decide (k<n)))=gQ hi lo n (k+1):=
 eM (by simp [dR]) (dR _ _ _ _) fun j hj=>by
  rw [Ih,fQ _ _ _ _ _ hj,fQ _ _ _ _ _ hj]
  simp only [dR]
  by_cases h:k=j
  ·subst h
   simp [mV,hk,show ¬(k+1≤k) by omega]
  ·rw [if_neg h]
   have:decide (k≤j)=decide (k+1≤j):=by rw [decide_eq_decide];omega
   simp [mV,this]
theorem xu {hi lo:Int} (hh:0≤hi) (hl:0≤lo) (n:Nat):gQ hi lo n 128=bi (jt hi n) (js lo n) 64:=eM (dR _ _ _ _) (aO _ _ _) fun j hj=>by
 rw [fQ _ _ _ _ _ hj,bJ _ _ _ _ hj]
 unfold mV fM jt js
 rw [rM hl,rM hh]
 by_cases h:j<64
 ·have h1:decide (j<min n 64)=decide (j<n):=by rw [decide_eq_decide];omega
  simp [h,h1,show ¬(128≤j) by omega,Bool.and_comm]
 ·have h1:decide (j-64<n-64)=decide (j<n):=by rw [decide_eq_decide];omega
  simp [h,h1,show ¬(128≤j) by omega,show j<64+64 by omega,Bool.and_comm]
theorem vO {a:Int} (h:0≤a) (n:Nat):a % 2 ^ n≤a:=by
 have h1:=Int.emod_add_mul_ediv a (2 ^ n)
 have h2:=Int.mul_nonneg (Int.le_of_lt (fO n)) (Int.ediv_nonneg h (Int.le_of_lt (fO n)))
 omega
theorem CO {hi:Int} (hh:aI hi) (n:Nat):aI (jt hi n):=
 ⟨Int.emod_nonneg _ (Int.ne_of_gt (fO _)),Int.lt_of_le_of_lt (vO hh.1 _) hh.2⟩
theorem CP {lo:Int} (hl:aI lo) (n:Nat):aI (js lo n):=
 ⟨Int.emod_nonneg _ (Int.ne_of_gt (fO _)),Int.lt_of_le_of_lt (vO hl.1 _) hl.2⟩
theorem Af (hi lo z:Int) (n:Nat) (w:World) (hh:aI hi) (hl:aI lo) (hz:∀ k:Nat,k<128→((k:Int)<z↔k<n)):Calls prog 166 #[.agg #[.int .u64 hi,.int .u64 lo],.int .i64 z] w fun e w'=>e=.returned (.agg #[.int .u64 (jt hi n),.int .u64 (js lo n)])∧Below w.heap.size w w':=by
 have hB:=aa (fun W=>eZ hi lo W hh hl)
 have hN:=aa (fun W=>kj (jt hi n) (js lo n) W (CO hh n) (CP hl n))
 have hend:=aa (xu hh.1 hl.1 n)
 clear hh hl
 obtain ⟨wa,hwa,hsa,hba,hca,-⟩:=ak w #[.int .u64 hi,.int .u64 lo] 61
 have y0:wa.cell? ⟨w.heap.size,0,none⟩=some (.int .u64 hi):=hca 0
 have y1:wa.cell? ⟨w.heap.size,1,none⟩=some (.int .u64 lo):=hca 1
 obtain ⟨wb,hwb,hsb,hbb,hcb,-⟩:=ak wa #[.int .u64 0,.int .u64 0] 61
 have hg1:wb.heap[w.heap.size+1]? =some (.cells #[.int .u64 0,.int .u64 0] 61 (0,0)):=by rw [←hwb,←hsa];exact heap_alloc_last wa _
 have y0':wb.cell? ⟨w.heap.size,0,none⟩=some (.int .u64 hi):=(bH hbb w.heap.size 0 (by omega)).trans y0
 have y1':wb.cell? ⟨w.heap.size,1,none⟩=some (.int .u64 lo):=(bH hbb w.heap.size 1 (by omega)).trans y1
 have hbw:=aa (hba.trans (hbb.mono (by omega)))
 have hszb:wb.heap.size=w.heap.size+2:=by omega
 replace hg1:=aa hg1
 clear hba hbb hca hcb
 go_enter func166,ntmps166
 go_wp2_with fail
 refine (hB.out _).mono ?_
 rintro e w1 ⟨rfl,hb1⟩
 have hst:(kf (.pointer (some ⟨w1.heap.size,0,none⟩)) (.agg (bi hi lo 64))).run prog (w1.alloc (.cells Tryz.zeroCells178 178))=.ok () (w1.alloc (.cells (gQ hi lo n 0) 178)):=by
  rw [dQ (heap_alloc_last w1 _) (by rfl) (aO _ _ _) (fN _ _ _),World.setRow_alloc_new,ur]
 go_wp2
 have hB1:=aa (hbw.out.trans (hb1.mono (by omega)))
 have hg1':w1.heap[w.heap.size+1]? =some (.cells #[.int .u64 0,.int .u64 0] 61 (0,0)):=(hb1.block _ (by omega)).trans hg1.out
 have hzz:wb.heap.size≤w1.heap.size:=hb1.size
 have hsz1:w.heap.size+1<w1.heap.size:=by omega
 replace hg1':=aa hg1'
 clear hst hb1 hB hg1 hsb hsa hwa hwb y0 y1 y0' y1' hbw
 go_loopw [6] (fun i wr=>∃ k:Nat,k≤128∧i=.int .i64 k∧wr=w1.alloc (.cells (gQ hi lo n k) 178)) (fun i _=>128-(intOf i).toNat)
 case atStart=>exact ⟨0,Hm _,rfl,rfl⟩
 case round=>
  obtain ⟨k,hk,rfl,rfl⟩:=hrel
  have hs1:=dR hi lo n k
  by_cases hlt:k<128
  focus
   have hltz:(k:Int)<128:=by omega
   have hsucc:=us hi lo n hlt
   have hc:(gQ hi lo n k)[k]? =some (.bool (if k<64 then bF lo k else bF hi (k-64))):=by
    rw [fQ _ _ _ _ _ hlt];simp [mV]
   generalize (if k<64 then bF lo k else bF hi (k-64))=b at hsucc hc
   clear hs1
   cases b
   rw [Hg] at hsucc
   rotate_right
   focus
    rw [Hk] at hsucc
    by_cases hkn:k<n
    have hknz:(k:Int)<z:=(hz k hlt).2 hkn
    rw [decide_eq_true hkn] at hsucc
    rotate_right
    have hknz:¬(k:Int)<z:=fun g=>hkn ((hz k hlt).1 g)
    rw [decide_eq_false hkn] at hsucc
  rotate_right
  focus
   obtain rfl:k=128:=by omega
   rw [hend.out]
   rw [hend.out] at hs1
   have hlast:=heap_alloc_last w1 (.cells (bi (jt hi n) (js lo n) 64) 178)
   have hbl:Below w1.heap.size w1 (w1.alloc (.cells (bi (jt hi n) (js lo n) 64) 178)):=(Hf _ _).alloc (Hh _) _
   obtain ⟨W,hW⟩:∃ W,w1.alloc (.cells (bi (jt hi n) (js lo n) 64) 178)=W:=⟨_,rfl⟩
   rw [hW] at hlast hbl
   have hld:=iq hlast hs1
   have hzW:w1.heap.size≤W.heap.size:=hbl.size
   have hBW:=aa (hB1.out.trans (hbl.mono (by omega)))
   have hgW:=aa ((hbl.block _ (by omega)).trans hg1'.out)
   clear hs1 hlast hbl
   go_wp2_with fail
   refine (hN.out _).mono ?_
   rintro e w2 ⟨rfl,hb2⟩
   have hg2:w2.heap[w.heap.size+1]? =some (.cells #[.int .u64 0,.int .u64 0] 61 (0,0)):=(hb2.block _ (by omega)).trans hgW.out
   have hB2:=aa (hBW.out.trans (hb2.mono (by omega)))
   have k0:w2.cell? ⟨w.heap.size+1,0,none⟩=some (.int .u64 0):=by simp [World.cell?,hg2]
   have k1:w2.cell? ⟨w.heap.size+1,1,none⟩=some (.int .u64 0):=by simp [World.cell?,hg2]
   have f0:w2.frozen? ⟨w.heap.size+1,0,none⟩=false:=by simp [World.frozen?,hg2]
   have f1:w2.frozen? ⟨w.heap.size+1,1,none⟩=false:=by simp [World.frozen?,hg2]
   clear hg2 hld
   go_wp2
   exact bodyPost_ret (v:=.agg #[.int .u64 (jt hi n),.int .u64 (js lo n)]) (by simp [results,results166,go_sem,k0,k1]) rfl ⟨rfl,(hB2.out.setCell (by show w.heap.size≤w.heap.size+1;omega) _).setCell (by show w.heap.size≤w.heap.size+1;omega) _⟩
  all_goals
   replace hsucc:=aa hsucc
   go_wp2
   go_roundw
   case rel=>exact ⟨k+1,by omega,by go_num,by rw [hsucc.out]⟩
   case measure=>simp [intOf];omega
end
theorem vP (l:Lt) (n:Nat) (hl:mG l) (h2:n≤128):jt l.2.1 n=aJ l.2.1 (aX n)∧js l.2.2 n=aJ l.2.2 (aP n):=by
 obtain ⟨-,⟨a0,a1⟩,b0,b1⟩:=hl
 unfold jt js aX aP
 by_cases h:n≤64
 ·rw [if_pos h,if_pos h,dF _ n b0 b1 h]
  have e0:aJ l.2.1 0=0:=by have:=dF l.2.1 0 a0 a1 (by omega);simpa using this
  rw [e0,show n-64=0 by omega,show min n 64=n by omega]
  simp
 ·rw [if_neg h,if_neg h,dF _ (n-64) a0 a1 (by omega)]
  have e1:aJ l.2.2 18446744073709551615=l.2.2:=by
   have:=dF l.2.2 64 b0 b1 (by omega)
   rw [Int.emod_eq_of_lt b0 (by simpa using b1)] at this
   simpa using this
  rw [e1,show min n 64=64 by omega]
  exact ⟨rfl,Int.emod_eq_of_lt b0 (by simpa using b1)⟩
theorem xw (l:Lt) (n:Nat) (hl:mG l) (h1:1≤n) (h2:n≤128):(jt l.2.1 n==l.2.1&&js l.2.2 n==l.2.2)=kP (n:Int) l:=by
 rw [←vN l n hl h1 h2,(vP l n hl h2).1,(vP l n hl h2).2]
theorem xx (hi lo z a b:Int) (w:World) (hC:∀ W,Calls prog 166 #[.agg #[.int .u64 hi,.int .u64 lo],.int .i64 z] W fun e w'=>e=.returned (.agg #[.int .u64 a,.int .u64 b])∧Below W.heap.size W w'):Calls prog 125 #[.agg #[.int .u64 hi,.int .u64 lo],.int .i64 z] w fun e w'=>e=.returned (.bool (a==hi&&b==lo))∧Below w.heap.size w w':=by
 obtain ⟨wa,hwa,hsa,hba,hca,-⟩:=ak w #[.int .u64 hi,.int .u64 lo] 61
 have y0:wa.cell? ⟨w.heap.size,0,none⟩=some (.int .u64 hi):=hca 0
 have y1:wa.cell? ⟨w.heap.size,1,none⟩=some (.int .u64 lo):=hca 1
 have hX:∀ d os,Hid (Calls prog 166 #[.agg #[.int .u64 hi,.int .u64 lo],.int .i64 z] (Ht (redrawn wa d) os) _):=fun d os=>aa (hC _)
 have hg:=aE (show Below wa.heap.size wa wa from Hf _ _) (Hh _)
 have hlt:w.heap.size<wa.heap.size:=by omega
 replace hba:=aa hba
 clear hca hC hsa
 by_cases e1:a=hi
 ·subst e1
  by_cases e2:b=lo
  ·subst e2
   go_enter func125,ntmps125
   go_wp2_with fail
   refine bV ?_
   repeat (any_goals (first|go_big_quiet_step ((go_at_call 166;with_reducible exact Hi (hX _ _).out))|quiet_step ((go_at_call 166;with_reducible exact Hi (hX _ _).out))))
   refine wpQuiet_nil ?_
   intro w1 hw1
   replace hw1:=ac hw1
   go_wp2
   go_ret
   exact ⟨ad (by simp),hba.out.trans (hw1.mono (Hs hlt))⟩
  ·have e2':(b==lo)=false:=beq_eq_false_iff_ne.2 e2
   go_enter func125,ntmps125
   go_wp2_with fail
   refine bV ?_
   repeat (any_goals (first|go_big_quiet_step ((go_at_call 166;with_reducible exact Hi (hX _ _).out))|quiet_step ((go_at_call 166;with_reducible exact Hi (hX _ _).out))))
   refine wpQuiet_nil ?_
   intro w1 hw1
   replace hw1:=ac hw1
   go_wp2
   go_ret
   exact ⟨ad (by simp [e2']),hba.out.trans (hw1.mono (Hs hlt))⟩
 ·have e1':(a==hi)=false:=beq_eq_false_iff_ne.2 e1
  go_enter func125,ntmps125
  go_wp2_with fail
  refine bV ?_
  repeat (any_goals (first|go_big_quiet_step ((go_at_call 166;with_reducible exact Hi (hX _ _).out))|quiet_step ((go_at_call 166;with_reducible exact Hi (hX _ _).out))))
  refine wpQuiet_nil ?_
  intro w1 hw1
  replace hw1:=ac hw1
  go_wp2
  go_ret
  exact ⟨ad (by simp [e1']),hba.out.trans (hw1.mono (Hs hlt))⟩
theorem Ag (n:Nd) (w:World):Calls prog 117 #[.agg #[.int .u8 n.op,.int .i64 n.w,.int .i64 n.a,.int .i64 n.b,.int .u64 n.hi,.int .u64 n.lo]] w fun e w'=>e=.returned (.bool (fJ n))∧Below w.heap.size w w':=by
 obtain ⟨op,nw,a,b,hi,lo⟩:=n
 simp only
 obtain ⟨wa,hwa,hsa,hba,hca,-⟩:=ak w #[.int .u8 op,.int .i64 nw,.int .i64 a,.int .i64 b,.int .u64 hi,.int .u64 lo] 110
 have x0:wa.cell? ⟨w.heap.size,0,none⟩=some (.int .u8 op):=hca 0
 have x2:wa.cell? ⟨w.heap.size,2,none⟩=some (.int .i64 a):=hca 2
 have x3:wa.cell? ⟨w.heap.size,3,none⟩=some (.int .i64 b):=hca 3
 have x4:wa.cell? ⟨w.heap.size,4,none⟩=some (.int .u64 hi):=hca 4
 have x5:wa.cell? ⟨w.heap.size,5,none⟩=some (.int .u64 lo):=hca 5
 have hlt:w.heap.size<wa.heap.size:=by omega
 replace hba:=aa hba
 replace hsa:=aa hsa
 clear hca
 go_enter func117,ntmps117
 go_wp2
 all_goals go_ret
 all_goals refine ⟨ad ?_,hba.out⟩
 all_goals clear x0 x2 x3 x4 x5 hwa hba hsa
 all_goals (unfold fJ uo gd;simp [*]<;>first|rfl|(rw [Hr];simp [*]))
def eN (z:Int):Nat:=if z<1 then 0 else (min z 128).toNat
theorem mW (z:Int):eN z≤128:=by unfold eN;split<;>omega
theorem Ah (z:Int) (k:Nat) (hk:k<128):(k:Int)<z↔k<eN z:=by unfold eN;split<;>omega
theorem Ef {hi lo:Int} (h:aI hi∧aI lo):0≤rD (0,hi,lo)∧rD (0,hi,lo)<2 ^ 128:=by
 obtain ⟨⟨a0,a1⟩,b0,b1⟩:=h
 unfold rD
 simp only
 have:(2:Int) ^ 128=18446744073709551616*18446744073709551616:=by decide
 omega
theorem vQ {z hi lo:Int} (h:aI hi∧aI lo) (hz:z<1):bN z hi lo=(decide (hi=0)&&decide (lo=0)):=by
 obtain ⟨⟨a0,a1⟩,b0,b1⟩:=h
 unfold bN kP rD
 rw [show z.toNat=0 by omega]
 rw [Hr]
 simp only [Hl,decide_eq_true_eq]
 omega
theorem lY {z hi lo:Int} (h:aI hi∧aI lo) (hz:128≤z):bN z hi lo=true:=by
 unfold bN kP
 have h1:=(Ef h).2
 have h2:(2:Int) ^ 128≤2 ^ z.toNat:=by
  have:=Ic (n:=2) (by omega) (show 128≤z.toNat by omega)
  have h3:=Int.ofNat_le.2 this
  rw [Int.natCast_pow,Int.natCast_pow] at h3
  exact h3
 rw [decide_eq_true_eq];omega
theorem xy (z:Int) (w:World) (hz:z<1):Calls prog 162 #[.int .i64 z] w fun e w'=>e=.returned (.agg #[.int .u64 0,.int .u64 0])∧Below w.heap.size w w':=by
 obtain ⟨wa,hwa,hsa,hba,hca,hfa⟩:=ak w #[.int .u64 0,.int .u64 0] 61
 obtain ⟨wb,hwb,hsb,hbb,hcb,-⟩:=ak wa #[.int .u64 18446744073709551615,.int .u64 18446744073709551615] 61
 have hw:=hba.trans (hbb.mono (by omega))
 have x0:wb.cell? ⟨w.heap.size,0,none⟩=some (.int .u64 0):=(bH hbb w.heap.size 0 (by omega)).trans (hca 0)
 have x1:wb.cell? ⟨w.heap.size,1,none⟩=some (.int .u64 0):=(bH hbb w.heap.size 1 (by omega)).trans (hca 1)
 have f0:∀ i,wb.frozen? ⟨w.heap.size,i,none⟩=false:=fun i=>(Gz hbb w.heap.size i (by omega)).trans (hfa i)
 simp only [hsa] at hcb
 have y0:wb.cell? ⟨w.heap.size+1,0,none⟩=some (.int .u64 18446744073709551615):=hcb 0
 have y1:wb.cell? ⟨w.heap.size+1,1,none⟩=some (.int .u64 18446744073709551615):=hcb 1
 have hzz:w.heap.size<wb.heap.size:=by omega
 replace hw:=aa hw
 replace hsb:=aa hsb
 clear hca hcb hba hbb hfa
 go_enter func162,ntmps162
 go_wp2
 refine bodyPost_ret (v:=.agg #[.int .u64 0,.int .u64 0]) (by simp [results,results162,go_sem,hzz,x0,x1]) rfl ⟨rfl,?_⟩
 exact ((hw.out).setCell (by simp) _).setCell (by simp) _
theorem mX (z:Int) (w:World):Calls prog 162 #[.int .i64 z] w fun e w'=>e=.returned (.agg #[.int .u64 (aX (eN z)),.int .u64 (aP (eN z))])∧Below w.heap.size w w':=by
 by_cases hz:z<1
 ·have:eN z=0:=by simp [eN,hz]
  rw [this]
  exact xy z w hz
 ·refine vH z (eN z) w ?_ (mW z) ?_ hz
  ·unfold eN;rw [if_neg hz];omega
  ·unfold eN;rw [if_neg hz];omega
theorem cL (hi lo z:Int) (W:World) (h:aI hi∧aI lo):Calls prog 115 #[.agg #[.int .u64 hi,.int .u64 lo],.int .i64 z] W fun e w'=>e=.returned (.bool (bN z hi lo))∧Below W.heap.size W w':=by
 have hF:=CL hi lo z _ _ W fun W=>zP hi lo z _ _ W fun W=>mX z W
 have e:(aJ hi (aX (eN z))==hi&&aJ lo (aP (eN z))==lo)=bN z hi lo:=by
  by_cases hz:z<1
  ·have hc:eN z=0:=by simp [eN,hz]
   rw [hc,vQ h hz]
   have e1:∀ x:Int,aI x→aJ x 0=0:=fun x hx=>by have:=dF x 0 hx.1 hx.2 (by omega);simpa using this
   simp only [aX,aP,Hm,if_true,Int.pow_zero]
   rw [show (1:Int)-1=0 from rfl,e1 hi h.1,e1 lo h.2,Hr]
   simp only [Hl,beq_iff_eq,decide_eq_true_eq]
   constructor<;>rintro ⟨a,b⟩<;>exact ⟨a.symm,b.symm⟩
  ·have h0:mG (0,hi,lo):=⟨by simp [Cq],h.1,h.2⟩
   have h1:1≤eN z:=by unfold eN;rw [if_neg hz];omega
   rw [vN (0,hi,lo) (eN z) h0 h1 (mW z)]
   by_cases hz2:z<128
   ·have:(eN z:Int)=z:=by unfold eN;rw [if_neg hz];omega
    rw [this];rfl
   ·have:(eN z:Int)=128:=by unfold eN;rw [if_neg hz];omega
    rw [lY h (by omega),this]
    exact lY (z:=128) h (by omega)
 rw [←e];exact hF
theorem gl (hi lo z:Int) (W:World) (h:aI hi∧aI lo):Calls prog 125 #[.agg #[.int .u64 hi,.int .u64 lo],.int .i64 z] W fun e w'=>e=.returned (.bool (bN z hi lo))∧Below W.heap.size W w':=by
 have hF:=xx hi lo z _ _ W fun W=>Af hi lo z (eN z) W h.1 h.2 fun k hk=>Ah z k hk
 have e:(jt hi (eN z)==hi&&js lo (eN z)==lo)=bN z hi lo:=by
  by_cases hz:z<1
  ·have hc:eN z=0:=by simp [eN,hz]
   rw [hc,vQ h hz]
   unfold jt js
   rw [show (0:Nat)-64=0 from rfl,show min 0 64=0 from rfl,Int.pow_zero,Int.emod_one,Int.emod_one,Hr]
   simp only [Hl,beq_iff_eq,decide_eq_true_eq]
   constructor<;>rintro ⟨a,b⟩<;>exact ⟨a.symm,b.symm⟩
  ·have h0:mG (0,hi,lo):=⟨by simp [Cq],h.1,h.2⟩
   have h1:1≤eN z:=by unfold eN;rw [if_neg hz];omega
   rw [xw (0,hi,lo) (eN z) h0 h1 (mW z)]
   by_cases hz2:z<128
   ·have:(eN z:Int)=z:=by unfold eN;rw [if_neg hz];omega
    rw [this];rfl
   ·have:(eN z:Int)=128:=by unfold eN;rw [if_neg hz];omega
    rw [lY h (by omega),this]
    exact lY (z:=128) h (by omega)
 rw [←e];exact hF
def nv (hi lo:Int):Nat:=hi.toNat*18446744073709551616+lo.toNat
theorem pi {hi lo:Int} (h1:aI hi) (h2:aI lo):nv hi lo<2 ^ 128:=by
 obtain ⟨a,b⟩:=h1
 obtain ⟨c,d⟩:=h2
 unfold nv
 omega
theorem Ai {a b c d:Int} (h1:aI a) (h2:aI b) (h3:aI c) (h4:aI d):nv a b=nv c d↔a=c∧b=d:=by
 obtain ⟨_,_⟩:=h1
 obtain ⟨_,_⟩:=h2
 obtain ⟨_,_⟩:=h3
 obtain ⟨_,_⟩:=h4
 unfold nv
 omega
theorem iR {w hi lo:Int} (h1:aI hi) (h2:aI lo):bN w hi lo=decide (nv hi lo<2 ^ w.toNat):=by
 unfold bN kP rD nv
 rw [decide_eq_decide]
 obtain ⟨k,rfl⟩:=Hv h1.1
 obtain ⟨m,rfl⟩:=Hv h2.1
 simp only [HG]
 have e:(2:Int) ^ w.toNat=((2 ^ w.toNat:Nat):Int):=by push_cast;rfl
 rw [e]
 omega
def nB (hi lo:Int) (j:Nat):Bool:=if j<64 then bF lo j else bF hi (j-64)
theorem vR {hi lo:Int} (h1:aI hi) (h2:aI lo) (j:Nat):nB hi lo j=(nv hi lo).testBit j:=by
 obtain ⟨k,rfl⟩:=Hv h1.1
 obtain ⟨m,rfl⟩:=Hv h2.1
 have hm:m<2 ^ 64:=by have:=h2.2;omega
 unfold nB nv
 simp only [HG,e9]
 rw [show k*18446744073709551616+m=2 ^ 64*k+m by omega]
 rw [Ig _ hm]
theorem Eg {a b c d:Int} (h1:aI a) (h2:aI b) (h3:aI c) (h4:aI d):(aJ a c=a∧aJ b d=b)↔nv a b&&&nv c d=nv a b:=by
 obtain ⟨a,rfl⟩:=Hv h1.1
 obtain ⟨b,rfl⟩:=Hv h2.1
 obtain ⟨c,rfl⟩:=Hv h3.1
 obtain ⟨d,rfl⟩:=Hv h4.1
 have ea:aJ (a:Int) c=((a&&&c:Nat):Int):=by rw [aJ,u64_and_nat a c (by have:=h1.2;omega) (by have:=h3.2;omega)]
 have eb:aJ (b:Int) d=((b&&&d:Nat):Int):=by rw [aJ,u64_and_nat b d (by have:=h2.2;omega) (by have:=h4.2;omega)]
 have hb:b<2 ^ 64:=by have:=h2.2;omega
 have hd:d<2 ^ 64:=by have:=h4.2;omega
 rw [ea,eb]
 unfold nv
 simp only [HG]
 rw [show a*18446744073709551616+b=2 ^ 64*a+b by omega,show c*18446744073709551616+d=2 ^ 64*c+d by omega]
 have key:(2 ^ 64*a+b)&&&(2 ^ 64*c+d)=2 ^ 64*(a&&&c)+(b&&&d):=by
  apply Nat.eq_of_testBit_eq
  intro i
  rw [Nat.testBit_and,Ig _ hb,Ig _ hd,Ig _ (Nat.lt_of_le_of_lt Nat.and_le_left hb)]
  split<;>rw [Nat.testBit_and]
 rw [key]
 have hl:b&&&d<2 ^ 64:=Nat.lt_of_le_of_lt Nat.and_le_left hb
 generalize a&&&c=x at*
 generalize b&&&d=y at*
 omega
def el (w:Int) (p:Pt):Bool:=aj w&&(bN w p.vh p.vl&&(bN w p.mh p.ml&&(decide (aJ p.vh p.mh=p.vh)&&decide (aJ p.vl p.ml=p.vl))))
def Aj (w:Int) (p:Pt) (i:Nat):Bool:= !(nB p.vh p.vl i&& !nB p.mh p.ml i ||decide (w≤(i:Int))&&nB p.mh p.ml i)
def fa (w:Int) (p:Pt):Bool:=aj w&&(HJ 128).all (Aj w p)
def em (p:Pt):Prop:=aI p.vh∧aI p.vl∧aI p.mh∧aI p.ml
theorem Eh {X Y W:Nat} (hX:X<2 ^ 128) (hY:Y<2 ^ 128):(X<2 ^ W∧Y<2 ^ W∧X&&&Y=X)↔∀ i<128,¬(X.testBit i=true∧Y.testBit i=false)∧¬(W≤i∧Y.testBit i=true):=by
 constructor
 ·rintro ⟨h1,h2,h3⟩ i _
  refine ⟨fun ⟨a,b⟩=> ?_,fun ⟨a,b⟩=> ?_⟩
  ·rw [←h3,Nat.testBit_and,b,Bool.and_false] at a;cases a
  ·rw [Nat.testBit_lt_two_pow (He h2 (Ic (by decide) a))] at b;cases b
 ·intro h
  have hy:Y<2 ^ W:=Nat.lt_pow_two_of_testBit Y fun i hi=>by
   by_cases h1:i<128
   ·have:=(h i h1).2
    cases hb:Y.testBit i with
    |false=>rfl
    |true=>exact absurd ⟨hi,hb⟩ this
   ·exact Nat.testBit_lt_two_pow (He hY (Ic (by decide) (by omega)))
  have hxy:X&&&Y=X:=Nat.eq_of_testBit_eq fun i=>by
   rw [Nat.testBit_and]
   by_cases h1:i<128
   ·have:=(h i h1).1
    cases ha:X.testBit i<;>cases hb:Y.testBit i<;>simp_all
   ·rw [Nat.testBit_lt_two_pow (He hX (Ic (by decide) (by omega)))];rfl
  exact ⟨Nat.lt_of_le_of_lt (by rw [←hxy];exact Nat.and_le_right) hy,hy,hxy⟩
theorem gR {w:Int} {p:Pt} (h:em p):el w p=true↔aj w=true∧nv p.vh p.vl<2 ^ w.toNat∧nv p.mh p.ml<2 ^ w.toNat∧nv p.vh p.vl&&&nv p.mh p.ml=nv p.vh p.vl:=by
 obtain ⟨h1,h2,h3,h4⟩:=h
 unfold el
 rw [iR h1 h2,iR h3 h4,←Eg h1 h2 h3 h4]
 simp only [Hl,decide_eq_true_eq]
theorem qG {w:Int} {p:Pt} (h:em p):el w p=fa w p:=by
 rw [Hr,gR h]
 unfold fa
 rw [Hl]
 refine and_congr_right fun hw=> ?_
 rw [aA] at hw
 obtain ⟨h1,h2,h3,h4⟩:=h
 rw [Eh (pi h1 h2) (pi h3 h4),Hx]
 simp only [HO,Aj,vR h1 h2,vR h3 h4]
 refine forall_congr' fun i=>forall_congr' fun hi=> ?_
 have e:decide (w≤(i:Int))=decide (w.toNat≤i):=by rw [decide_eq_decide];omega
 rw [e]
 cases (nv p.vh p.vl).testBit i<;>cases (nv p.mh p.ml).testBit i<;>simp
def dK (n w:Nat):Nat:=2 ^ w-2 ^ (w-n)
theorem xz {n w:Nat} (h:n≤w):dK n w=(2 ^ n-1)<<<(w-n):=by
 unfold dK
 rw [Nat.shiftLeft_eq,Nat.sub_mul,←Nat.pow_add,Nat.one_mul,show n+(w-n)=w by omega]
theorem ir {n w:Nat} (h:n≤w) (i:Nat):(dK n w).testBit i=(decide (w-n≤i)&&decide (i<w)):=by
 rw [xz h,Nat.testBit_shiftLeft,Nat.testBit_two_pow_sub_one]
 rw [Hr]
 simp only [Hl,decide_eq_true_eq]
 omega
theorem vS {n m w:Nat} (h1:n≤w) (h2:m≤w) (h:dK n w=dK m w):n=m:=by
 have key:∀ a b,a≤w→b≤w→a<b→dK a w=dK b w→False:=fun a b ha hb hab he=>by
  have h3:=ir ha (w-b)
  rw [he,ir hb,decide_eq_true (by omega),decide_eq_true (show w-b<w by omega),decide_eq_false (show ¬w-a≤w-b by omega)] at h3
  cases h3
 rcases Nat.lt_trichotomy n m with h3|h3|h3
 ·exact absurd h (fun e=>key n m h1 h2 h3 e)
 ·exact h3
 ·exact absurd h.symm (fun e=>key m n h2 h1 h3 e)
def iy (M:Nat):Nat→Nat
 |0=>0
 |w+1=>if M.testBit w then iy M w+1 else 0
theorem lZ (M:Nat):∀ w,iy M w≤w
 |0=>Hh _
 |w+1=>by unfold iy;split<;>have:=lZ M w<;>omega
theorem kl (M:Nat):∀ w i,w-iy M w≤i→i<w→M.testBit i=true
 |0,i,_,h=>by omega
 |w+1,i,h1,h2=>by
  unfold iy at h1
  split at h1
  ·rename_i hb
   by_cases h:i=w
   ·rw [h];exact hb
   ·exact kl M w i (by omega) (by omega)
  ·omega
theorem pj (M:Nat):∀ w,iy M w<w→M.testBit (w-1-iy M w)=false
 |0,h=>by omega
 |w+1,h=>by
  unfold iy at h ⊢
  split
  ·rename_i hb
   rw [if_pos hb] at h
   have:=pj M w (by omega)
   rw [show w+1-1-(iy M w+1)=w-1-iy M w by omega]
   exact this
  ·rename_i hb
   simpa using hb
theorem vT {M:Nat} {w n:Nat} (hn:n≤w) (h1:∀ i,w-n≤i→i<w→M.testBit i=true) (h2:n<w→M.testBit (w-1-n)=false):iy M w=n:=by
 have hle:=lZ M w
 rcases Nat.lt_trichotomy (iy M w) n with h|h|h
 ·have h3:=pj M w (by omega)
  rw [h1 _ (by omega) (by omega)] at h3
  cases h3
 ·exact h
 ·have h3:=kl M w (w-1-n) (by omega) (by omega)
  rw [h2 (by omega)] at h3
  cases h3
def qH (w M:Nat):Option Nat:=(HJ (w+1)).find? fun n=>decide (dK n w=M)
def ut (w M:Nat):Option Nat:=if (HJ (w-iy M w)).all (fun i=> !M.testBit i) then some (iy M w) else none
theorem pm {w M n:Nat} (hM:M<2 ^ w):ut w M=some n↔n≤w∧dK n w=M:=by
 unfold ut
 constructor
 ·intro h
  split at h
  ·rename_i hz
   rw [Hx] at hz
   cases h
   refine ⟨lZ M w,Nat.eq_of_testBit_eq fun i=> ?_⟩
   rw [ir (lZ M w)]
   by_cases h1:i<w
   ·by_cases h2:w-iy M w≤i
    ·rw [kl M w i h2 h1];simp [h1,h2]
    ·have:=hz i (HO.2 (by omega))
     simp only [Bool.not_eq_true'] at this
     rw [this];simp [h2]
   ·rw [Nat.testBit_lt_two_pow (He hM (Ic (by decide) (by omega)))];simp [h1]
  ·cases h
 ·rintro ⟨h1,rfl⟩
  have ht:iy (dK n w) w=n:=vT h1 (fun i a b=>by rw [ir h1];simp [a,b]) (fun h=>by rw [ir h1,decide_eq_false (by omega)];rfl)
  rw [ht,if_pos]
  rw [Hx]
  intro i hi
  rw [HO] at hi
  rw [ir h1,decide_eq_false (by omega)];rfl
theorem cO {w M n:Nat}:qH w M=some n↔n≤w∧dK n w=M:=by
 unfold qH
 constructor
 ·intro h
  have h1:=List.find?_some h
  have h2:=List.mem_of_find?_eq_some h
  rw [HO] at h2
  exact ⟨by omega,by simpa using h1⟩
 ·rintro ⟨h1,h2⟩
  cases h:(HJ (w+1)).find? fun n=>decide (dK n w=M) with
  |none=>
   rw [List.find?_eq_none] at h
   have:=h n (HO.2 (by omega))
   simp [h2] at this
  |some m=>
   have h3:=List.find?_some h
   have h4:=List.mem_of_find?_eq_some h
   rw [HO] at h4
   simp only [decide_eq_true_eq] at h3
   rw [vS (n:=m) (m:=n) (w:=w) (by omega) h1 (h3.trans h2.symm)]
theorem Ei {w M:Nat} (hM:M<2 ^ w):qH w M=ut w M:=by
 cases h:ut w M with
 |some n=>rw [cO];exact (pm hM).1 h
 |none=>
  cases h2:qH w M with
  |none=>rfl
  |some n=>rw [cO] at h2;rw [(pm hM).2 h2] at h;cases h
theorem vU (w:Nat):dK w w=2 ^ w-1:=by simp [dK]
theorem qI {n w:Nat}:dK n w<2 ^ w:=by unfold dK;have:=Nat.pow_pos (n:=w) (show 0<2 by decide);have:=Nat.pow_pos (n:=w-n) (show 0<2 by decide);omega
structure aR where
 tab:Int
 pats:List Pt
 len:Int
 prio:Int
 run:Rn
theorem ma:∀ n:Fin 129,nv (aX n.val) (aP n.val)=2 ^ n.val-1∧aI (aX n.val)∧aI (aP n.val):=by
 have h:∀ n:Fin 129,nv (aX n.val) (aP n.val)=2 ^ n.val-1∧(0≤aX n.val∧aX n.val<18446744073709551616)∧(0≤aP n.val∧aP n.val<18446744073709551616):=by decide+kernel
 exact h
def fd (w:Int) (p:Pt):Bool:=decide (p.mh=aX (eN w))&&decide (p.ml=aP (eN w))
theorem rN {w:Int} {p:Pt} (h:em p) (hw:aj w=true):fd w p=true↔nv p.mh p.ml=dK w.toNat w.toNat:=by
 rw [aA] at hw
 have hc:eN w=w.toNat:=by unfold eN;rw [if_neg (by omega)];omega
 obtain ⟨e,h1,h2⟩:=ma ⟨w.toNat,by omega⟩
 simp only at e h1 h2
 unfold fd
 rw [Hl,decide_eq_true_eq,decide_eq_true_eq,hc,←Ai h.2.2.1 h.2.2.2 h1 h2,e,vU]
def mY (f:Nat→Nat→Option Nat) (m:Bool) (w:Int) (x:Pt):Int×Bool:=if m then (match f w.toNat (nv x.mh x.ml) with|some n=>((n:Int),true)|none=>(0,false)) else (0,false)
def iS (w:Int) (x:Pt):Int×Bool:=mY qH (el w x) w x
def zo (w:Int) (x:Pt):Int×Bool:=mY ut (fa w x) w x
theorem Fa {w:Int} {x:Pt} (h:em x):iS w x=zo w x:=by
 unfold iS zo mY
 rw [qG h]
 by_cases hm:fa w x=true
 ·rw [if_pos hm,if_pos hm]
  rw [←qG h] at hm
  rw [Ei ((gR h).1 hm).2.2.1]
 ·rw [if_neg hm,if_neg hm]
def fD (w k:Int) (x:Pt) (n:Int):Option Int:=
 if el w x=false then none else if k=1∧(iS w x).1<w then none else if k=2∧(iS w x).2=false then none else if k=2 then some (iS w x).1 else some n
def xA (w k:Int) (x:Pt) (n:Int):Option Int:=
 if fa w x=false then none else if k=1∧fd w x=false then none else if k=2 then (if (zo w x).2=false then none else some (zo w x).1) else some n
theorem vV {w:Int} {x:Pt} (h:em x) (hm:el w x=true):(iS w x).1<w↔fd w x=false:=by
 obtain ⟨hw,-,h2,-⟩:=(gR h).1 hm
 have hw':=(aA w).1 hw
 have key:fd w x=true↔¬(iS w x).1<w:=by
  rw [rN h hw]
  unfold iS mY
  rw [if_pos hm]
  cases hl:qH w.toNat (nv x.mh x.ml) with
  |some n=>
   obtain ⟨a,b⟩:=cO.1 hl
   simp only
   constructor
   ·intro e
    have:=vS a (Hh _) (b.trans e)
    omega
   ·intro e
    have:n=w.toNat:=by omega
    rw [←b,this]
  |none=>
   simp only
   constructor
   ·intro e
    have:=cO.2 ⟨Hh _,e.symm⟩
    rw [hl] at this;cases this
   ·intro e;omega
 cases hi:fd w x<;>simp_all
theorem Ej {w k:Int} {x:Pt} {n:Int} (h:em x):fD w k x n=xA w k x n:=by
 unfold fD xA
 rw [←qG h,←Fa h]
 by_cases hm:el w x=false
 ·rw [if_pos hm,if_pos hm]
 ·rw [if_neg hm,if_neg hm]
  have hm':el w x=true:=by simpa using hm
  have hq:=vV h hm'
  by_cases h1:k=1∧(iS w x).1<w
  ·rw [if_pos h1,if_pos (show k=1∧fd w x=false from ⟨h1.1,hq.1 h1.2⟩)]
  ·rw [if_neg h1,if_neg (show ¬(k=1∧fd w x=false) from fun e=>h1 ⟨e.1,hq.2 e.2⟩)]
   by_cases h2:k=2
   ·by_cases h3:(iS w x).2=false
    ·rw [if_pos ⟨h2,h3⟩,if_pos h2,if_pos h3]
    ·rw [if_neg (show ¬(k=2∧(iS w x).2=false) from fun e=>h3 e.2),if_pos h2,if_pos h2,if_neg h3]
   ·rw [if_neg (show ¬(k=2∧(iS w x).2=false) from fun e=>h2 e.1),if_neg h2,if_neg h2]
def cQ (f:Nat→Pt→Int→Option Int):Nat→List Pt→Int→Option Int
 |_,[],n=>some n
 |i,x::l,n=>match f i x n with
  |none=>none
  |some m=>cQ f (i+1) l m
theorem mZ {f g:Nat→Pt→Int→Option Int}:∀ (l:List Pt) (i:Nat) (n:Int),(∀ x∈l,∀ i n,f i x n=g i x n)→cQ f i l n=cQ g i l n
 | [],_,_,_=>rfl
 |x::l,i,n,h=>by
  unfold cQ
  rw [h x HE]
  cases g i x n with
  |none=>rfl
  |some m=>exact mZ l (i+1) m fun y hy=>h y (HI _ hy)
theorem m6 (f:Nat→Pt→Int→Option Int):∀ (a b:List Pt) (i:Nat) (n:Int),cQ f i (a++b) n=(cQ f i a n).bind fun m=>cQ f (i+a.length) b m
 | [],_,_,_=>rfl
 |x::a,b,i,n=>by
  rw [H6,cQ,cQ]
  cases f i x n with
  |none=>rfl
  |some m=>
   simp only
   rw [m6 f a b (i+1) m]
   rw [show i+1+a.length=i+(x::a).length by rw [Hp];omega]
theorem pu {f:Nat→Pt→Int→Option Int} {l:List Pt} {k:Nat} {n m o:Int} (hk:k<l.length) (h:cQ f 0 (l.take k) n=some m) (hf:f k l[k] m=some o):cQ f 0 (l.take (k+1)) n=some o:=by
 rw [HR hk,m6,h]
 simp only [Hq,HS,HF,Nat.min_eq_left (Hs hk)]
 unfold cQ
 rw [hf]
 rfl
theorem pw {f:Nat→Pt→Int→Option Int} {l:List Pt} {k:Nat} {n m:Int} (hk:k<l.length) (h:cQ f 0 (l.take k) n=some m) (hf:f k l[k] m=none):cQ f 0 l n=none:=by
 conv=>lhs;rw [←List.take_append_drop k l]
 rw [m6,h]
 simp only [Hq,HS,HF,Nat.min_eq_left (Hs hk)]
 rw [H4 hk]
 unfold cQ
 rw [hf]
def m7 (p:Lp) (t:eF) (i:Nat):Int:=(((t.keys[i]?).map (fk p (-1))).getD none).getD 0
def Ek (p:Lp) (t:eF) (i:Nat):Int:=(((t.keys[i]?).map (jm p (-1))).getD none).getD 0
def cB (t:eF) (i:Nat):Int:=t.kinds.getD i 0
def gS (e:aR):Bool:=decide (0≤e.prio)&&decide (e.prio≤65536)
def gm (p:Lp) (e:aR):Bool:=match eG p.tabs e.tab with
 |none=>false
 |some t=>gS e&&(decide (e.pats.length=t.keys.length)&&(dD p t.acts e.run&&decide (cQ (fun i x n=>fD (m7 p t i) (cB t i) x n) 0 e.pats 0=some e.len)))
def cC (p:Lp) (e:aR):Bool:=match eG p.tabs e.tab with
 |none=>false
 |some t=>gS e&&(decide (e.pats.length=t.keys.length)&&(dD p t.acts e.run&&decide (cQ (fun i x n=>xA (Ek p t i) (cB t i) x n) 0 e.pats 0=some e.len)))
def aV (p:Lp) (l:List aR):Bool:=bW p&&(decide (l.length≤64)&&l.all (gm p))
def rO (p:Lp) (l:List aR):Bool:=iG p&&(decide (l.length≤64)&&l.all (cC p))
def CQ (e:aR):Prop:=∀ x∈e.pats,em x
theorem Fb {p:Lp} {t:eF} (h:∀ c∈t.keys,uq c) (i:Nat):m7 p t i=Ek p t i:=by
 unfold m7 Ek
 by_cases hi:i<t.keys.length
 ·rw [Hn hi]
  simp only [Option.map_some,H9]
  rw [qy p (-1) _ (h _ (Ho hi))]
 ·rw [List.getElem?_eq_none (by omega)];rfl
theorem El {p:Lp} {e:aR} (hp:DS p) (he:CQ e):gm p e=cC p e:=by
 unfold gm cC
 cases ht:eG p.tabs e.tab with
 |none=>rfl
 |some t=>
  simp only
  rw [mZ e.pats 0 0 fun x hx i n=>by rw [Ej (he x hx),Fb (hp.tab t (gh ht))]]
theorem vW {p:Lp} {l:List aR} (hp:DS p) (h:∀ e∈l,CQ e):aV p l=rO p l:=by
 unfold aV rO
 rw [zZ p hp]
 congr 2
 rw [Hr,Hx,Hx]
 exact forall_congr' fun e=>forall_congr' fun he=>by rw [El hp (h e he)]
end Go.Proofs.YtiebolhmdhdagaaGreatDoor

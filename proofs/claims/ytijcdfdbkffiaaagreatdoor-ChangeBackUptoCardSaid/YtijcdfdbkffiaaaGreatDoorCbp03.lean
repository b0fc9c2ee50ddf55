import Derived.Laws.CopyOwn
import Derived.Test.YtijcdfdbkffiaaaGreatDoorCbp02
import Derived.Deep.DeepCutAuto
import Derived.Lib.SlTrimSet
set_option linter.all false
set_option maxHeartbeats 4000000
set_option maxRecDepth 100000
open Go.Proofs.Tryz
namespace Go.Proofs.YtijcdfdbkffiaaaGreatDoor
open _root_.Nat renaming lt_of_lt_of_le→Hr, le_refl→Ht, zero_le→Hz, le_of_lt→HL, zero_add→H3, pow_le_pow_right→Ii, testBit_two_pow_mul_add→Is
open _root_.Go.RowKit.Below renaming refl→Hs
open _root_.Bool renaming false_and→Hu, true_and→Hx, and_eq_true→Hy, eq_iff_iff→HF, or_eq_true→HS, false_eq_true→H2, and_eq_false_iff→Ib
open _root_.Go.Calls renaming regrown_of→Hv
open _root_.List renaming getElem?_eq_getElem→HA, getElem_mem→HE, length_append→HM, length_cons→HN, length_take→HO, length_drop→HR, all_eq_true→HT, mem_cons→HU, range→HX, isPrefixOf→HY, mem_append→HZ, mem_range→H5, take_of_length_le→H6, take_succ_eq_append_getElem→H9, take_append_drop→Ig, take_append_of_le_length→Il, drop_of_length_le→Im, getD_eq_getElem?_getD→Iq, drop_eq_getElem_cons→Iu
open _root_.Go.Sort renaming grow→HG
open _root_.Int renaming eq_ofNat_of_zero_le→HH, toNat_natCast→HQ
open _root_.Option renaming bind_some→HP, getD_some→If
open _root_.Array renaming getElem?_setIfInBounds→Iv
open Go.RowKit
section
def bu (x:Int) (j:Nat):Bool:=decide (x / 2 ^ j % 2=1)
def fj (hi lo:Int) (k j:Nat):Value:=.bool (if j<64 then decide (j<k)&&bu lo j else decide (j<64+k)&&bu hi (j-64))
def bh (hi lo:Int) (k:Nat):Array Value:=((HX 128).map (fj hi lo k)).toArray
theorem bE (hi lo:Int) (k j:Nat) (hj:j<128):(bh hi lo k)[j]? =some (fj hi lo k j):=by
 simp [bh,hj]
theorem aQ (hi lo:Int) (k:Nat):(bh hi lo k).size=128:=by simp [bh]
theorem gm (hi lo:Int) (k:Nat):(bh hi lo k).all (·.oneCell')=true:=by
 simp [bh,fj,Value.oneCell',HT]
theorem nN (hi lo:Int):bh hi lo 0=Tryz.zeroCells163:=by
 have h:bh hi lo 0=Array.replicate 128 (.bool false):=by
  apply Array.ext_getElem?
  intro j
  by_cases hj:j<128
  ·rw [bE _ _ _ _ hj]
   by_cases h64:j<64<;>simp [fj,hj,h64]
  ·simp [bh,hj]
 exact h.trans (Eq.symm (by rfl))
theorem vN (hi lo:Int) {k:Nat} (hk:k<64):((bh hi lo k).setIfInBounds k (.bool (bu lo k))).setIfInBounds (64+k) (.bool (bu hi k))=bh hi lo (k+1):=by
 apply Array.ext_getElem?
 intro j
 by_cases hj:j<128
 ·rw [Iv,Iv,bE _ _ _ _ hj,bE _ _ _ _ hj]
  simp only [Array.size_setIfInBounds,aQ]
  by_cases h1:64+k=j
  ·subst h1
   simp [fj,hj,hk]
   omega
  ·by_cases h2:k=j
   ·subst h2
    simp [fj,h1,hk]
    omega
   ·simp only [if_neg h1,if_neg h2,fj]
    by_cases h64:j<64
    ·have:(decide (j<k))=decide (j<k+1):=by rw [decide_eq_decide];omega
     simp [h64,this]
    ·have:(decide (j<64+k))=decide (j<64+(k+1)):=by rw [decide_eq_decide];omega
     simp [h64,this]
 ·have h:∀ a:Array Value,a.size=128→a[j]? =none:=fun a ha=>Array.getElem?_eq_none (by omega)
  rw [h _ (by simp [aQ]),h _ (aQ _ _ _)]
theorem fo (k:Nat):(0:Int)<2 ^ k:=Int.pow_pos (by decide)
theorem pd {x:Int} (h0:0≤x) (h1:x<18446744073709551616) (k:Nat):0≤x / 2 ^ k∧x / 2 ^ k<18446744073709551616:=
 ⟨Int.ediv_nonneg h0 (Int.le_of_lt (fo k)),Int.lt_of_le_of_lt (Int.ediv_le_self _ h0) h1⟩
theorem ll (x:Int) (k:Nat):x / 2 ^ (k+1)=x / 2 ^ k / 2:=by
 rw [Int.pow_succ,Int.ediv_ediv_of_nonneg (Int.le_of_lt (fo k))]
def zq (v:Value):Sem Value:=Instr.loadAt 163 v
theorem iP (v:Value):Instr.loadAt 163 v=zq v:=rfl
def lq (v u:Value):Sem Unit:=Instr.storeAt 163 v u
theorem gn (v u:Value):Instr.storeAt 163 v u=lq v u:=rfl
theorem lw:(prog.info? 163).map (·.size)=some 128:=by kernel_rfl
theorem gL {W:World} {g:Nat} {C:Array Value} {t:TypeId} {fr:Nat×Nat} (h:W.heap[g]? =some (.cells C t fr)) (hs:C.size=128):(zq (.pointer (some ⟨g,0,none⟩))).run prog W=.ok (.agg C) W:=by
 unfold zq
 simp only [Instr.loadAt,Instr.sureAddr,Sem.run_bind,Sem.run_pure,Result.andThen]
 exact run_loadVar_row W g t _ C fr _ h underlying163 rfl (by rw [hs];exact lw)
theorem eG {W:World} {g:Nat} {C C':Array Value} {t:TypeId} (h:W.heap[g]? =some (.cells C t (0,0))) (hs:C.size=128) (hs':C'.size=128) (h1:C'.all (·.oneCell')=true):(lq (.pointer (some ⟨g,0,none⟩)) (.agg C')).run prog W=.ok () (W.setRow g C'):=by
 unfold lq
 simp only [Instr.storeAt,Instr.sureAddr,Sem.run_bind,Sem.run_pure,Result.andThen]
 exact run_storeVar_row W g t _ C C' h (by rw [hs'];exact lw) (by omega) h1
theorem js {W:World} {g:Nat} {C C':Array Value} {t:TypeId} {fr:Nat×Nat} (h:W.heap[g]? =some (.cells C t fr)):(W.setRow g C').heap[g]? =some (.cells C' t fr):=by
 simp [World.setRow,Array.getElem?_modify,h]
theorem lA {W:World} {g b:Nat} {C':Array Value} (h:b≠g):(W.setRow g C').heap[b]? =W.heap[b]? :=by
 simp only [World.setRow,Array.getElem?_modify]
 rw [if_neg (Ne.symm h)]
attribute [local go_sem ↓] iP gn
theorem fR (hi lo:Int) (w:World) (hh:aW hi) (hl:aW lo):Calls prog 145 #[.agg #[.int .u64 hi,.int .u64 lo]] w fun e w'=>e=.returned (.agg (bh hi lo 64))∧Below w.heap.size w w':=by
 obtain ⟨hh1,hh2⟩:=hh
 obtain ⟨hl1,hl2⟩:=hl
 go_enter func145,ntmps145
 go_wp2
 rw [←nN hi lo]
 go_loopw [4] (fun i wr=>∃ k:Nat,k≤64∧i=.int .i64 k∧wr=((w.alloc (.cells #[.int .u64 (hi / 2 ^ k),.int .u64 (lo / 2 ^ k)] 96)).alloc (.cells (bh hi lo 0) 163)).alloc (.cells (bh hi lo k) 163)) (fun i _=>64-(intOf i).toNat)
 case atStart=>exact ⟨0,Hz _,rfl,by simp⟩
 case round=>
  obtain ⟨k,hk,rfl,rfl⟩:=hrel
  have hs1:=aQ hi lo k
  have hs0:=aQ hi lo 0
  by_cases hlt:k<64
  ·have hltz:(k:Int)<64:=by omega
   have hsucc:=aa (vN hi lo hlt)
   obtain ⟨hx1,hx2⟩:=pd hh1 hh2 k
   obtain ⟨hy1,hy2⟩:=pd hl1 hl2 k
   have hxs:=ll hi k
   have hys:=ll lo k
   have hbx:bu hi k=decide (hi / 2 ^ k % 2=1):=rfl
   have hby:bu lo k=decide (lo / 2 ^ k % 2=1):=rfl
   rw [hbx,hby] at hsucc
   clear hbx hby
   generalize hi / 2 ^ k=x at*
   generalize lo / 2 ^ k=y at*
   have hc1:(bh hi lo k)[k]? =some (fj hi lo k k):=bE _ _ _ _ (by omega)
   have hc2:(bh hi lo k)[64+k]? =some (fj hi lo k (64+k)):=bE _ _ _ _ (by omega)
   replace hxs:=aa hxs
   replace hys:=aa hys
   go_wp2
   go_roundw
   case rel=>exact ⟨k+1,by omega,by go_num,by rw [hxs.out,hys.out,←hsucc.out];rfl⟩
   case measure=>simp [intOf];omega
  ·obtain rfl:k=64:=by omega
   generalize hi / 2 ^ 64=x
   generalize lo / 2 ^ 64=y
   obtain ⟨W,hW⟩:∃ W,((w.alloc (.cells #[.int .u64 x,.int .u64 y] 96)).alloc (.cells (bh hi lo 0) 163)).alloc (.cells (bh hi lo 64) 163)=W:=⟨_,rfl⟩
   have hb:Below w.heap.size w W:=by
    rw [←hW]
    exact (((Hs _ _).alloc (Ht _) _).alloc (by simp) _).alloc (by simp;omega) _
   have hg2:W.heap[w.heap.size+1+1]? =some (.cells (bh hi lo 64) 163 (0,0)):=by
    rw [←hW]
    have:=heap_alloc_last ((w.alloc (.cells #[.int .u64 x,.int .u64 y] 96)).alloc (.cells (bh hi lo 0) 163)) (.cells (bh hi lo 64) 163)
    simpa using this
   have hg1:W.heap[w.heap.size+1]? =some (.cells (bh hi lo 0) 163 (0,0)):=by
    rw [←hW]
    have:=heap_alloc_last (w.alloc (.cells #[.int .u64 x,.int .u64 y] 96)) (.cells (bh hi lo 0) 163)
    rw [Below.heap_alloc _ _ _ (by simp)]
    simpa using this
   have hld:=gL hg2 hs1
   have hst:=eG hg1 hs0 hs1 (gm hi lo 64)
   have hg3:=js (C':=bh hi lo 64) hg1
   have hb2:Below w.heap.size w (W.setRow (w.heap.size+1) (bh hi lo 64)):=below_setRow hb (by omega) _
   generalize W.setRow (w.heap.size+1) (bh hi lo 64)=W2 at hst hg3 hb2
   have hlv:=run_loadVar_row (P:=prog) W2 (w.heap.size+1) _ 163 (bh hi lo 64) _ _ hg3 underlying163 rfl (by rw [hs1];exact lw)
   replace hb2:=aa hb2
   clear hb hg1 hg2 hg3 hs1 hs0
   go_wp2
   exact bodyPost_ret (v:=.agg (bh hi lo 64)) (by simp [results,results145,asAddr,Result.andThen,hlv]) rfl ⟨rfl,hb2.out⟩
end
section
attribute [local go_sem ↓] iP gn
theorem Co (hi lo:Int) {j:Nat} (hj:j<64):(bh hi lo 64)[j]? =some (.bool (bu lo j)):=by
 rw [bE _ _ _ _ (by omega)]
 simp [fj,hj]
theorem Cp (hi lo:Int) {j:Nat} (hj:j<64):(bh hi lo 64)[64+j]? =some (.bool (bu hi j)):=by
 rw [bE _ _ _ _ (by omega)]
 simp [fj,show ¬(64+j<64) by omega,show 64+j<128 by omega]
theorem qk {x:Int} (h0:0≤x) (h1:x<18446744073709551616) (t:Nat):x / 2 ^ t=x / 2 ^ (t+1)*2+(if bu x t then 1 else 0)∧0≤x / 2 ^ (t+1)∧x / 2 ^ (t+1)<9223372036854775808:=by
 have h:=ll x t
 obtain ⟨h2,h3⟩:=pd h0 h1 t
 unfold bu
 generalize x / 2 ^ t=y at*
 rw [h]
 by_cases hb:y % 2=1
 ·simp only [hb,decide_true,if_true];omega
 ·simp only [hb,decide_false,H2,if_false];omega
theorem jt (hi lo:Int) (w:World) (hh:aW hi) (hl:aW lo):Calls prog 112 #[.agg (bh hi lo 64)] w fun e w'=>e=.returned (.agg #[.int .u64 hi,.int .u64 lo])∧Below w.heap.size w w':=by
 obtain ⟨hh1,hh2⟩:=hh
 obtain ⟨hl1,hl2⟩:=hl
 go_enter func112,ntmps112
 go_wp2
 go_loopw [4] (fun i wr=>∃ j:Nat,j≤64∧(∃ i':Int,i=.int .i64 i'∧i'=(j:Int)-1)∧wr=((w.alloc (.cells (bh hi lo 64) 163)).alloc (.cells #[.int .u64 0,.int .u64 0] 96)).alloc (.cells #[.int .u64 (hi / 2 ^ j),.int .u64 (lo / 2 ^ j)] 96)) (fun i _=>(intOf i+1).toNat)
 case atStart=>exact ⟨64,Ht _,⟨_,rfl,by decide⟩,by
  rw [show hi / 2 ^ 64=0 from Int.ediv_eq_zero_of_lt hh1 (by simpa using hh2),show lo / 2 ^ 64=0 from Int.ediv_eq_zero_of_lt hl1 (by simpa using hl2)]⟩
 case round=>
  obtain ⟨j,hj,⟨i',rfl,hi'⟩,rfl⟩:=hrel
  cases j with
  |succ t=>
   obtain rfl:i'=(t:Int):=by omega
   clear hi'
   have htz:(0:Int)≤(t:Int):=by omega
   have ht64:(t:Int)<64:=by omega
   obtain ⟨ex,hx1,hx2⟩:=qk hh1 hh2 t
   obtain ⟨ey,hy1,hy2⟩:=qk hl1 hl2 t
   have hc1:=Co hi lo (show t<64 by omega)
   have hc2:=Cp hi lo (show t<64 by omega)
   generalize bu lo t=b1 at*
   generalize bu hi t=b2 at*
   generalize hi / 2 ^ (t+1)=x at*
   generalize lo / 2 ^ (t+1)=y at*
   replace ex:=aa ex
   replace ey:=aa ey
   cases b1 with
   |false=>
    cases b2 with
    |false=>
     go_wp2
     go_roundw
     case rel=>exact ⟨t,by omega,⟨_,rfl,rfl⟩,by rw [ex.out,ey.out];simp⟩
     case measure=>simp [intOf]
    |true=>
     go_wp2
     go_roundw
     case rel=>exact ⟨t,by omega,⟨_,rfl,rfl⟩,by rw [ex.out,ey.out];simp⟩
     case measure=>simp [intOf]
   |true=>
    cases b2 with
    |false=>
     go_wp2
     go_roundw
     case rel=>exact ⟨t,by omega,⟨_,rfl,rfl⟩,by rw [ex.out,ey.out];simp⟩
     case measure=>simp [intOf]
    |true=>
     go_wp2
     go_roundw
     case rel=>exact ⟨t,by omega,⟨_,rfl,rfl⟩,by rw [ex.out,ey.out];simp⟩
     case measure=>simp [intOf]
  |zero=>
   obtain rfl:i'= -1:=by omega
   simp only [Int.pow_zero,Int.ediv_one]
   generalize bh hi lo 64=C
   clear hi' hj
   go_wp2
   exact bodyPost_ret (v:=.agg #[.int .u64 hi,.int .u64 lo]) (by simp [results,results112,go_sem]) rfl ⟨rfl,(((Hs _ _).alloc (Ht _) _).alloc (by simp) _).alloc (by simp;omega) _⟩
end
section
attribute [local go_sem ↓] iP gn
theorem eH (X j:Nat):bu (X:Int) j=X.testBit j:=by
 unfold bu
 rw [Nat.testBit_eq_decide_div_mod_eq,decide_eq_decide]
 have h:(X:Int) / 2 ^ j=((X / 2 ^ j:Nat):Int):=by simp
 rw [h]
 omega
theorem qm {x:Int} (h0:0≤x) (n j:Nat):bu (x % 2 ^ n) j=(decide (j<n)&&bu x j):=by
 obtain ⟨X,rfl⟩:=HH h0
 have h:((X:Int) % 2 ^ n)=((X % 2 ^ n:Nat):Int):=by simp
 rw [h,eH,eH,Nat.testBit_mod_two_pow]
theorem nO (j:Nat):bu 0 j=false:=by simp [bu]
def iQ (lo:Int) (n:Nat):Int:=lo % 2 ^ min n 64
def iR (hi:Int) (n:Nat):Int:=hi % 2 ^ (n-64)
def lB (hi lo:Int) (n k j:Nat):Value:=.bool ((if j<64 then bu lo j else bu hi (j-64))&&(decide (k≤j) ||decide (j<n)))
def gp (hi lo:Int) (n k:Nat):Array Value:=((HX 128).map (lB hi lo n k)).toArray
theorem fp (hi lo:Int) (n k j:Nat) (hj:j<128):(gp hi lo n k)[j]? =some (lB hi lo n k j):=by simp [gp,hj]
theorem dM (hi lo:Int) (n k:Nat):(gp hi lo n k).size=128:=by simp [gp]
theorem et {a b:Array Value} (ha:a.size=128) (hb:b.size=128) (h:∀ j,j<128→a[j]? =b[j]?):a=b:=by
 apply Array.ext_getElem?
 intro j
 by_cases hj:j<128
 ·exact h j hj
 ·rw [Array.getElem?_eq_none (by omega),Array.getElem?_eq_none (by omega)]
theorem sR (hi lo:Int) (n:Nat):gp hi lo n 0=bh hi lo 64:=et (dM _ _ _ _) (aQ _ _ _) fun j hj=>by
 rw [fp _ _ _ _ _ hj,bE _ _ _ _ hj]
 by_cases h:j<64<;>simp [lB,fj,h]
 omega
theorem sS (hi lo:Int) (n:Nat) {k:Nat} (hk:k<128):(gp hi lo n k).setIfInBounds k (.bool ((if k<64 then bu lo k else bu hi (k-64))&&decide (k<n)))=gp hi lo n (k+1):=
 et (by simp [dM]) (dM _ _ _ _) fun j hj=>by
  rw [Iv,fp _ _ _ _ _ hj,fp _ _ _ _ _ hj]
  simp only [dM]
  by_cases h:k=j
  ·subst h
   simp [lB,hk,show ¬(k+1≤k) by omega]
  ·rw [if_neg h]
   have:decide (k≤j)=decide (k+1≤j):=by rw [decide_eq_decide];omega
   simp [lB,this]
theorem vO {hi lo:Int} (hh:0≤hi) (hl:0≤lo) (n:Nat):gp hi lo n 128=bh (iR hi n) (iQ lo n) 64:=et (dM _ _ _ _) (aQ _ _ _) fun j hj=>by
 rw [fp _ _ _ _ _ hj,bE _ _ _ _ hj]
 unfold lB fj iR iQ
 rw [qm hl,qm hh]
 by_cases h:j<64
 ·have h1:decide (j<min n 64)=decide (j<n):=by rw [decide_eq_decide];omega
  simp [h,h1,show ¬(128≤j) by omega,Bool.and_comm]
 ·have h1:decide (j-64<n-64)=decide (j<n):=by rw [decide_eq_decide];omega
  simp [h,h1,show ¬(128≤j) by omega,show j<64+64 by omega,Bool.and_comm]
theorem uF {a:Int} (h:0≤a) (n:Nat):a % 2 ^ n≤a:=by
 have h1:=Int.emod_add_mul_ediv a (2 ^ n)
 have h2:=Int.mul_nonneg (Int.le_of_lt (fo n)) (Int.ediv_nonneg h (Int.le_of_lt (fo n)))
 omega
theorem Cq {hi:Int} (hh:aW hi) (n:Nat):aW (iR hi n):=
 ⟨Int.emod_nonneg _ (Int.ne_of_gt (fo _)),Int.lt_of_le_of_lt (uF hh.1 _) hh.2⟩
theorem Cr {lo:Int} (hl:aW lo) (n:Nat):aW (iQ lo n):=
 ⟨Int.emod_nonneg _ (Int.ne_of_gt (fo _)),Int.lt_of_le_of_lt (uF hl.1 _) hl.2⟩
theorem zr (hi lo z:Int) (n:Nat) (w:World) (hh:aW hi) (hl:aW lo) (hz:∀ k:Nat,k<128→((k:Int)<z↔k<n)):Calls prog 143 #[.agg #[.int .u64 hi,.int .u64 lo],.int .i64 z] w fun e w'=>e=.returned (.agg #[.int .u64 (iR hi n),.int .u64 (iQ lo n)])∧Below w.heap.size w w':=by
 have hB:=aa (fun W=>fR hi lo W hh hl)
 have hN:=aa (fun W=>jt (iR hi n) (iQ lo n) W (Cq hh n) (Cr hl n))
 have hend:=aa (vO hh.1 hl.1 n)
 clear hh hl
 obtain ⟨wa,hwa,hsa,hba,hca,-⟩:=af w #[.int .u64 hi,.int .u64 lo] 96
 have y0:wa.cell? ⟨w.heap.size,0,none⟩=some (.int .u64 hi):=hca 0
 have y1:wa.cell? ⟨w.heap.size,1,none⟩=some (.int .u64 lo):=hca 1
 obtain ⟨wb,hwb,hsb,hbb,hcb,-⟩:=af wa #[.int .u64 0,.int .u64 0] 96
 have hg1:wb.heap[w.heap.size+1]? =some (.cells #[.int .u64 0,.int .u64 0] 96 (0,0)):=by rw [←hwb,←hsa];exact heap_alloc_last wa _
 have y0':wb.cell? ⟨w.heap.size,0,none⟩=some (.int .u64 hi):=(bj hbb w.heap.size 0 (by omega)).trans y0
 have y1':wb.cell? ⟨w.heap.size,1,none⟩=some (.int .u64 lo):=(bj hbb w.heap.size 1 (by omega)).trans y1
 have hbw:=aa (hba.trans (hbb.mono (by omega)))
 have hszb:wb.heap.size=w.heap.size+2:=by omega
 replace hg1:=aa hg1
 clear hba hbb hca hcb
 go_enter func143,ntmps143
 go_wp2_with fail
 refine (hB.out _).mono ?_
 rintro e w1 ⟨rfl,hb1⟩
 have hst:(lq (.pointer (some ⟨w1.heap.size,0,none⟩)) (.agg (bh hi lo 64))).run prog (w1.alloc (.cells Tryz.zeroCells163 163))=.ok () (w1.alloc (.cells (gp hi lo n 0) 163)):=by
  rw [eG (heap_alloc_last w1 _) (by rfl) (aQ _ _ _) (gm _ _ _),World.setRow_alloc_new,sR]
 go_wp2
 have hB1:=aa (hbw.out.trans (hb1.mono (by omega)))
 have hg1':w1.heap[w.heap.size+1]? =some (.cells #[.int .u64 0,.int .u64 0] 96 (0,0)):=(hb1.block _ (by omega)).trans hg1.out
 have hzz:wb.heap.size≤w1.heap.size:=hb1.size
 have hsz1:w.heap.size+1<w1.heap.size:=by omega
 replace hg1':=aa hg1'
 clear hst hb1 hB hg1 hsb hsa hwa hwb y0 y1 y0' y1' hbw
 go_loopw [6] (fun i wr=>∃ k:Nat,k≤128∧i=.int .i64 k∧wr=w1.alloc (.cells (gp hi lo n k) 163)) (fun i _=>128-(intOf i).toNat)
 case atStart=>exact ⟨0,Hz _,rfl,rfl⟩
 case round=>
  obtain ⟨k,hk,rfl,rfl⟩:=hrel
  have hs1:=dM hi lo n k
  by_cases hlt:k<128
  focus
   have hltz:(k:Int)<128:=by omega
   have hsucc:=sS hi lo n hlt
   have hc:(gp hi lo n k)[k]? =some (.bool (if k<64 then bu lo k else bu hi (k-64))):=by
    rw [fp _ _ _ _ _ hlt];simp [lB]
   generalize (if k<64 then bu lo k else bu hi (k-64))=b at hsucc hc
   clear hs1
   cases b
   rw [Hu] at hsucc
   rotate_right
   focus
    rw [Hx] at hsucc
    by_cases hkn:k<n
    have hknz:(k:Int)<z:=(hz k hlt).2 hkn
    rw [decide_eq_true hkn] at hsucc
    rotate_right
    have hknz:¬(k:Int)<z:=fun g=>hkn ((hz k hlt).1 g)
    rw [decide_eq_false hkn] at hsucc
  rotate_right
  focus
   obtain rfl:k=128:=by omega
   rw [hend.out]
   rw [hend.out] at hs1
   have hlast:=heap_alloc_last w1 (.cells (bh (iR hi n) (iQ lo n) 64) 163)
   have hbl:Below w1.heap.size w1 (w1.alloc (.cells (bh (iR hi n) (iQ lo n) 64) 163)):=(Hs _ _).alloc (Ht _) _
   obtain ⟨W,hW⟩:∃ W,w1.alloc (.cells (bh (iR hi n) (iQ lo n) 64) 163)=W:=⟨_,rfl⟩
   rw [hW] at hlast hbl
   have hld:=gL hlast hs1
   have hzW:w1.heap.size≤W.heap.size:=hbl.size
   have hBW:=aa (hB1.out.trans (hbl.mono (by omega)))
   have hgW:=aa ((hbl.block _ (by omega)).trans hg1'.out)
   clear hs1 hlast hbl
   go_wp2_with fail
   refine (hN.out _).mono ?_
   rintro e w2 ⟨rfl,hb2⟩
   have hg2:w2.heap[w.heap.size+1]? =some (.cells #[.int .u64 0,.int .u64 0] 96 (0,0)):=(hb2.block _ (by omega)).trans hgW.out
   have hB2:=aa (hBW.out.trans (hb2.mono (by omega)))
   have k0:w2.cell? ⟨w.heap.size+1,0,none⟩=some (.int .u64 0):=by simp [World.cell?,hg2]
   have k1:w2.cell? ⟨w.heap.size+1,1,none⟩=some (.int .u64 0):=by simp [World.cell?,hg2]
   have f0:w2.frozen? ⟨w.heap.size+1,0,none⟩=false:=by simp [World.frozen?,hg2]
   have f1:w2.frozen? ⟨w.heap.size+1,1,none⟩=false:=by simp [World.frozen?,hg2]
   clear hg2 hld
   go_wp2
   exact bodyPost_ret (v:=.agg #[.int .u64 (iR hi n),.int .u64 (iQ lo n)]) (by simp [results,results143,go_sem,k0,k1]) rfl ⟨rfl,(hB2.out.setCell (by show w.heap.size≤w.heap.size+1;omega) _).setCell (by show w.heap.size≤w.heap.size+1;omega) _⟩
  all_goals
   replace hsucc:=aa hsucc
   go_wp2
   go_roundw
   case rel=>exact ⟨k+1,by omega,by go_num,by rw [hsucc.out]⟩
   case measure=>simp [intOf];omega
end
theorem uG (l:Lt) (n:Nat) (hl:kO l) (h2:n≤128):iR l.2.1 n=aJ l.2.1 (aX n)∧iQ l.2.2 n=aJ l.2.2 (aP n):=by
 obtain ⟨-,⟨a0,a1⟩,b0,b1⟩:=hl
 unfold iR iQ aX aP
 by_cases h:n≤64
 ·rw [if_pos h,if_pos h,dw _ n b0 b1 h]
  have e0:aJ l.2.1 0=0:=by have:=dw l.2.1 0 a0 a1 (by omega);simpa using this
  rw [e0,show n-64=0 by omega,show min n 64=n by omega]
  simp
 ·rw [if_neg h,if_neg h,dw _ (n-64) a0 a1 (by omega)]
  have e1:aJ l.2.2 18446744073709551615=l.2.2:=by
   have:=dw l.2.2 64 b0 b1 (by omega)
   rw [Int.emod_eq_of_lt b0 (by simpa using b1)] at this
   simpa using this
  rw [e1,show min n 64=64 by omega]
  exact ⟨rfl,Int.emod_eq_of_lt b0 (by simpa using b1)⟩
theorem vP (l:Lt) (n:Nat) (hl:kO l) (h1:1≤n) (h2:n≤128):(iR l.2.1 n==l.2.1&&iQ l.2.2 n==l.2.2)=jM (n:Int) l:=by
 rw [←uE l n hl h1 h2,(uG l n hl h2).1,(uG l n hl h2).2]
theorem vQ (hi lo z a b:Int) (w:World) (hC:∀ W,Calls prog 143 #[.agg #[.int .u64 hi,.int .u64 lo],.int .i64 z] W fun e w'=>e=.returned (.agg #[.int .u64 a,.int .u64 b])∧Below W.heap.size W w'):Calls prog 107 #[.agg #[.int .u64 hi,.int .u64 lo],.int .i64 z] w fun e w'=>e=.returned (.bool (a==hi&&b==lo))∧Below w.heap.size w w':=by
 obtain ⟨wa,hwa,hsa,hba,hca,-⟩:=af w #[.int .u64 hi,.int .u64 lo] 96
 have y0:wa.cell? ⟨w.heap.size,0,none⟩=some (.int .u64 hi):=hca 0
 have y1:wa.cell? ⟨w.heap.size,1,none⟩=some (.int .u64 lo):=hca 1
 have hX:∀ d os,Hid (Calls prog 143 #[.agg #[.int .u64 hi,.int .u64 lo],.int .i64 z] (HG (redrawn wa d) os) _):=fun d os=>aa (hC _)
 have hg:=aS (show Below wa.heap.size wa wa from Hs _ _) (Ht _)
 have hlt:w.heap.size<wa.heap.size:=by omega
 replace hba:=aa hba
 clear hca hC hsa
 by_cases e1:a=hi
 ·subst e1
  by_cases e2:b=lo
  ·subst e2
   go_enter func107,ntmps107
   go_wp2_with fail
   refine cR ?_
   repeat (any_goals (first|go_big_quiet_step ((go_at_call 143;with_reducible exact Hv (hX _ _).out))|quiet_step ((go_at_call 143;with_reducible exact Hv (hX _ _).out))))
   refine wpQuiet_nil ?_
   intro w1 hw1
   replace hw1:=ac hw1
   go_wp2
   go_ret
   exact ⟨ad (by simp),hba.out.trans (hw1.mono (HL hlt))⟩
  ·have e2':(b==lo)=false:=beq_eq_false_iff_ne.2 e2
   go_enter func107,ntmps107
   go_wp2_with fail
   refine cR ?_
   repeat (any_goals (first|go_big_quiet_step ((go_at_call 143;with_reducible exact Hv (hX _ _).out))|quiet_step ((go_at_call 143;with_reducible exact Hv (hX _ _).out))))
   refine wpQuiet_nil ?_
   intro w1 hw1
   replace hw1:=ac hw1
   go_wp2
   go_ret
   exact ⟨ad (by simp [e2']),hba.out.trans (hw1.mono (HL hlt))⟩
 ·have e1':(a==hi)=false:=beq_eq_false_iff_ne.2 e1
  go_enter func107,ntmps107
  go_wp2_with fail
  refine cR ?_
  repeat (any_goals (first|go_big_quiet_step ((go_at_call 143;with_reducible exact Hv (hX _ _).out))|quiet_step ((go_at_call 143;with_reducible exact Hv (hX _ _).out))))
  refine wpQuiet_nil ?_
  intro w1 hw1
  replace hw1:=ac hw1
  go_wp2
  go_ret
  exact ⟨ad (by simp [e1']),hba.out.trans (hw1.mono (HL hlt))⟩
theorem zs (n:Nd) (w:World):Calls prog 132 #[.agg #[.int .u8 n.op,.int .i64 n.w,.int .i64 n.a,.int .i64 n.b,.int .u64 n.hi,.int .u64 n.lo]] w fun e w'=>e=.returned (.bool (fh n))∧Below w.heap.size w w':=by
 obtain ⟨op,nw,a,b,hi,lo⟩:=n
 simp only
 obtain ⟨wa,hwa,hsa,hba,hca,-⟩:=af w #[.int .u8 op,.int .i64 nw,.int .i64 a,.int .i64 b,.int .u64 hi,.int .u64 lo] 98
 have x0:wa.cell? ⟨w.heap.size,0,none⟩=some (.int .u8 op):=hca 0
 have x2:wa.cell? ⟨w.heap.size,2,none⟩=some (.int .i64 a):=hca 2
 have x3:wa.cell? ⟨w.heap.size,3,none⟩=some (.int .i64 b):=hca 3
 have x4:wa.cell? ⟨w.heap.size,4,none⟩=some (.int .u64 hi):=hca 4
 have x5:wa.cell? ⟨w.heap.size,5,none⟩=some (.int .u64 lo):=hca 5
 have hlt:w.heap.size<wa.heap.size:=by omega
 replace hba:=aa hba
 replace hsa:=aa hsa
 clear hca
 go_enter func132,ntmps132
 go_wp2
 all_goals go_ret
 all_goals refine ⟨ad ?_,hba.out⟩
 all_goals clear x0 x2 x3 x4 x5 hwa hba hsa
 all_goals (unfold fh sO fN;simp [*]<;>first|rfl|(rw [HF];simp [*]))
def eu (z:Int):Nat:=if z<1 then 0 else (min z 128).toNat
theorem lC (z:Int):eu z≤128:=by unfold eu;split<;>omega
theorem zt (z:Int) (k:Nat) (hk:k<128):(k:Int)<z↔k<eu z:=by unfold eu;split<;>omega
theorem DO {hi lo:Int} (h:aW hi∧aW lo):0≤qc (0,hi,lo)∧qc (0,hi,lo)<2 ^ 128:=by
 obtain ⟨⟨a0,a1⟩,b0,b1⟩:=h
 unfold qc
 simp only
 have:(2:Int) ^ 128=18446744073709551616*18446744073709551616:=by decide
 omega
theorem uH {z hi lo:Int} (h:aW hi∧aW lo) (hz:z<1):bJ z hi lo=(decide (hi=0)&&decide (lo=0)):=by
 obtain ⟨⟨a0,a1⟩,b0,b1⟩:=h
 unfold bJ jM qc
 rw [show z.toNat=0 by omega]
 rw [HF]
 simp only [Hy,decide_eq_true_eq]
 omega
theorem kF {z hi lo:Int} (h:aW hi∧aW lo) (hz:128≤z):bJ z hi lo=true:=by
 unfold bJ jM
 have h1:=(DO h).2
 have h2:(2:Int) ^ 128≤2 ^ z.toNat:=by
  have:=Ii (n:=2) (by omega) (show 128≤z.toNat by omega)
  have h3:=Int.ofNat_le.2 this
  rw [Int.natCast_pow,Int.natCast_pow] at h3
  exact h3
 rw [decide_eq_true_eq];omega
theorem vR (z:Int) (w:World) (hz:z<1):Calls prog 197 #[.int .i64 z] w fun e w'=>e=.returned (.agg #[.int .u64 0,.int .u64 0])∧Below w.heap.size w w':=by
 obtain ⟨wa,hwa,hsa,hba,hca,hfa⟩:=af w #[.int .u64 0,.int .u64 0] 96
 obtain ⟨wb,hwb,hsb,hbb,hcb,-⟩:=af wa #[.int .u64 18446744073709551615,.int .u64 18446744073709551615] 96
 have hw:=hba.trans (hbb.mono (by omega))
 have x0:wb.cell? ⟨w.heap.size,0,none⟩=some (.int .u64 0):=(bj hbb w.heap.size 0 (by omega)).trans (hca 0)
 have x1:wb.cell? ⟨w.heap.size,1,none⟩=some (.int .u64 0):=(bj hbb w.heap.size 1 (by omega)).trans (hca 1)
 have f0:∀ i,wb.frozen? ⟨w.heap.size,i,none⟩=false:=fun i=>(FE hbb w.heap.size i (by omega)).trans (hfa i)
 simp only [hsa] at hcb
 have y0:wb.cell? ⟨w.heap.size+1,0,none⟩=some (.int .u64 18446744073709551615):=hcb 0
 have y1:wb.cell? ⟨w.heap.size+1,1,none⟩=some (.int .u64 18446744073709551615):=hcb 1
 have hzz:w.heap.size<wb.heap.size:=by omega
 replace hw:=aa hw
 replace hsb:=aa hsb
 clear hca hcb hba hbb hfa
 go_enter func197,ntmps197
 go_wp2
 refine bodyPost_ret (v:=.agg #[.int .u64 0,.int .u64 0]) (by simp [results,results197,go_sem,hzz,x0,x1]) rfl ⟨rfl,?_⟩
 exact ((hw.out).setCell (by simp) _).setCell (by simp) _
theorem lD (z:Int) (w:World):Calls prog 197 #[.int .i64 z] w fun e w'=>e=.returned (.agg #[.int .u64 (aX (eu z)),.int .u64 (aP (eu z))])∧Below w.heap.size w w':=by
 by_cases hz:z<1
 ·have:eu z=0:=by simp [eu,hz]
  rw [this]
  exact vR z w hz
 ·refine uy z (eu z) w ?_ (lC z) ?_ hz
  ·unfold eu;rw [if_neg hz];omega
  ·unfold eu;rw [if_neg hz];omega
theorem cA (hi lo z:Int) (W:World) (h:aW hi∧aW lo):Calls prog 133 #[.agg #[.int .u64 hi,.int .u64 lo],.int .i64 z] W fun e w'=>e=.returned (.bool (bJ z hi lo))∧Below W.heap.size W w':=by
 have hF:=Cn hi lo z _ _ W fun W=>yV hi lo z _ _ W fun W=>lD z W
 have e:(aJ hi (aX (eu z))==hi&&aJ lo (aP (eu z))==lo)=bJ z hi lo:=by
  by_cases hz:z<1
  ·have hc:eu z=0:=by simp [eu,hz]
   rw [hc,uH h hz]
   have e1:∀ x:Int,aW x→aJ x 0=0:=fun x hx=>by have:=dw x 0 hx.1 hx.2 (by omega);simpa using this
   simp only [aX,aP,Hz,if_true,Int.pow_zero]
   rw [show (1:Int)-1=0 from rfl,e1 hi h.1,e1 lo h.2,HF]
   simp only [Hy,beq_iff_eq,decide_eq_true_eq]
   constructor<;>rintro ⟨a,b⟩<;>exact ⟨a.symm,b.symm⟩
  ·have h0:kO (0,hi,lo):=⟨by simp [B5],h.1,h.2⟩
   have h1:1≤eu z:=by unfold eu;rw [if_neg hz];omega
   rw [uE (0,hi,lo) (eu z) h0 h1 (lC z)]
   by_cases hz2:z<128
   ·have:(eu z:Int)=z:=by unfold eu;rw [if_neg hz];omega
    rw [this];rfl
   ·have:(eu z:Int)=128:=by unfold eu;rw [if_neg hz];omega
    rw [kF h (by omega),this]
    exact kF (z:=128) h (by omega)
 rw [←e];exact hF
theorem fS (hi lo z:Int) (W:World) (h:aW hi∧aW lo):Calls prog 107 #[.agg #[.int .u64 hi,.int .u64 lo],.int .i64 z] W fun e w'=>e=.returned (.bool (bJ z hi lo))∧Below W.heap.size W w':=by
 have hF:=vQ hi lo z _ _ W fun W=>zr hi lo z (eu z) W h.1 h.2 fun k hk=>zt z k hk
 have e:(iR hi (eu z)==hi&&iQ lo (eu z)==lo)=bJ z hi lo:=by
  by_cases hz:z<1
  ·have hc:eu z=0:=by simp [eu,hz]
   rw [hc,uH h hz]
   unfold iR iQ
   rw [show (0:Nat)-64=0 from rfl,show min 0 64=0 from rfl,Int.pow_zero,Int.emod_one,Int.emod_one,HF]
   simp only [Hy,beq_iff_eq,decide_eq_true_eq]
   constructor<;>rintro ⟨a,b⟩<;>exact ⟨a.symm,b.symm⟩
  ·have h0:kO (0,hi,lo):=⟨by simp [B5],h.1,h.2⟩
   have h1:1≤eu z:=by unfold eu;rw [if_neg hz];omega
   rw [vP (0,hi,lo) (eu z) h0 h1 (lC z)]
   by_cases hz2:z<128
   ·have:(eu z:Int)=z:=by unfold eu;rw [if_neg hz];omega
    rw [this];rfl
   ·have:(eu z:Int)=128:=by unfold eu;rw [if_neg hz];omega
    rw [kF h (by omega),this]
    exact kF (z:=128) h (by omega)
 rw [←e];exact hF
def nv (hi lo:Int):Nat:=hi.toNat*18446744073709551616+lo.toNat
theorem Du {hi lo:Int} (h1:aW hi) (h2:aW lo):nv hi lo<2 ^ 128:=by
 obtain ⟨a,b⟩:=h1
 obtain ⟨c,d⟩:=h2
 unfold nv
 omega
theorem zu {a b c d:Int} (h1:aW a) (h2:aW b) (h3:aW c) (h4:aW d):nv a b=nv c d↔a=c∧b=d:=by
 obtain ⟨_,_⟩:=h1
 obtain ⟨_,_⟩:=h2
 obtain ⟨_,_⟩:=h3
 obtain ⟨_,_⟩:=h4
 unfold nv
 omega
theorem lE {w hi lo:Int} (h1:aW hi) (h2:aW lo):bJ w hi lo=decide (nv hi lo<2 ^ w.toNat):=by
 unfold bJ jM qc nv
 rw [decide_eq_decide]
 obtain ⟨k,rfl⟩:=HH h1.1
 obtain ⟨m,rfl⟩:=HH h2.1
 simp only [HQ]
 have e:(2:Int) ^ w.toNat=((2 ^ w.toNat:Nat):Int):=by push_cast;rfl
 rw [e]
 omega
def nB (hi lo:Int) (j:Nat):Bool:=if j<64 then bu lo j else bu hi (j-64)
theorem zv {hi lo:Int} (h1:aW hi) (h2:aW lo) (j:Nat):nB hi lo j=(nv hi lo).testBit j:=by
 obtain ⟨k,rfl⟩:=HH h1.1
 obtain ⟨m,rfl⟩:=HH h2.1
 have hm:m<2 ^ 64:=by have:=h2.2;omega
 unfold nB nv
 simp only [HQ,eH]
 rw [show k*18446744073709551616+m=2 ^ 64*k+m by omega]
 rw [Is _ hm]
theorem DP {a b c d:Int} (h1:aW a) (h2:aW b) (h3:aW c) (h4:aW d):(aJ a c=a∧aJ b d=b)↔nv a b&&&nv c d=nv a b:=by
 obtain ⟨a,rfl⟩:=HH h1.1
 obtain ⟨b,rfl⟩:=HH h2.1
 obtain ⟨c,rfl⟩:=HH h3.1
 obtain ⟨d,rfl⟩:=HH h4.1
 have ea:aJ (a:Int) c=((a&&&c:Nat):Int):=by rw [aJ,u64_and_nat a c (by have:=h1.2;omega) (by have:=h3.2;omega)]
 have eb:aJ (b:Int) d=((b&&&d:Nat):Int):=by rw [aJ,u64_and_nat b d (by have:=h2.2;omega) (by have:=h4.2;omega)]
 have hb:b<2 ^ 64:=by have:=h2.2;omega
 have hd:d<2 ^ 64:=by have:=h4.2;omega
 rw [ea,eb]
 unfold nv
 simp only [HQ]
 rw [show a*18446744073709551616+b=2 ^ 64*a+b by omega,show c*18446744073709551616+d=2 ^ 64*c+d by omega]
 have key:(2 ^ 64*a+b)&&&(2 ^ 64*c+d)=2 ^ 64*(a&&&c)+(b&&&d):=by
  apply Nat.eq_of_testBit_eq
  intro i
  rw [Nat.testBit_and,Is _ hb,Is _ hd,Is _ (Nat.lt_of_le_of_lt Nat.and_le_left hb)]
  split<;>rw [Nat.testBit_and]
 rw [key]
 have hl:b&&&d<2 ^ 64:=Nat.lt_of_le_of_lt Nat.and_le_left hb
 generalize a&&&c=x at*
 generalize b&&&d=y at*
 omega
def eI (w:Int) (p:Pt):Bool:=aj w&&(bJ w p.vh p.vl&&(bJ w p.mh p.ml&&(decide (aJ p.vh p.mh=p.vh)&&decide (aJ p.vl p.ml=p.vl))))
def zw (w:Int) (p:Pt) (i:Nat):Bool:= !(nB p.vh p.vl i&& !nB p.mh p.ml i ||decide (w≤(i:Int))&&nB p.mh p.ml i)
def eJ (w:Int) (p:Pt):Bool:=aj w&&(HX 128).all (zw w p)
def fT (p:Pt):Prop:=aW p.vh∧aW p.vl∧aW p.mh∧aW p.ml
theorem DQ {X Y W:Nat} (hX:X<2 ^ 128) (hY:Y<2 ^ 128):(X<2 ^ W∧Y<2 ^ W∧X&&&Y=X)↔∀ i<128,¬(X.testBit i=true∧Y.testBit i=false)∧¬(W≤i∧Y.testBit i=true):=by
 constructor
 ·rintro ⟨h1,h2,h3⟩ i _
  refine ⟨fun ⟨a,b⟩=> ?_,fun ⟨a,b⟩=> ?_⟩
  ·rw [←h3,Nat.testBit_and,b,Bool.and_false] at a;cases a
  ·rw [Nat.testBit_lt_two_pow (Hr h2 (Ii (by decide) a))] at b;cases b
 ·intro h
  have hy:Y<2 ^ W:=Nat.lt_pow_two_of_testBit Y fun i hi=>by
   by_cases h1:i<128
   ·have:=(h i h1).2
    cases hb:Y.testBit i with
    |false=>rfl
    |true=>exact absurd ⟨hi,hb⟩ this
   ·exact Nat.testBit_lt_two_pow (Hr hY (Ii (by decide) (by omega)))
  have hxy:X&&&Y=X:=Nat.eq_of_testBit_eq fun i=>by
   rw [Nat.testBit_and]
   by_cases h1:i<128
   ·have:=(h i h1).1
    cases ha:X.testBit i<;>cases hb:Y.testBit i<;>simp_all
   ·rw [Nat.testBit_lt_two_pow (Hr hX (Ii (by decide) (by omega)))];rfl
  exact ⟨Nat.lt_of_le_of_lt (by rw [←hxy];exact Nat.and_le_right) hy,hy,hxy⟩
theorem iS {w:Int} {p:Pt} (h:fT p):eI w p=true↔aj w=true∧nv p.vh p.vl<2 ^ w.toNat∧nv p.mh p.ml<2 ^ w.toNat∧nv p.vh p.vl&&&nv p.mh p.ml=nv p.vh p.vl:=by
 obtain ⟨h1,h2,h3,h4⟩:=h
 unfold eI
 rw [lE h1 h2,lE h3 h4,←DP h1 h2 h3 h4]
 simp only [Hy,decide_eq_true_eq]
theorem pg {w:Int} {p:Pt} (h:fT p):eI w p=eJ w p:=by
 rw [HF,iS h]
 unfold eJ
 rw [Hy]
 refine and_congr_right fun hw=> ?_
 rw [aC] at hw
 obtain ⟨h1,h2,h3,h4⟩:=h
 rw [DQ (Du h1 h2) (Du h3 h4),HT]
 simp only [H5,zw,zv h1 h2,zv h3 h4]
 refine forall_congr' fun i=>forall_congr' fun hi=> ?_
 have e:decide (w≤(i:Int))=decide (w.toNat≤i):=by rw [decide_eq_decide];omega
 rw [e]
 cases (nv p.vh p.vl).testBit i<;>cases (nv p.mh p.ml).testBit i<;>simp
def dD (n w:Nat):Nat:=2 ^ w-2 ^ (w-n)
theorem vS {n w:Nat} (h:n≤w):dD n w=(2 ^ n-1)<<<(w-n):=by
 unfold dD
 rw [Nat.shiftLeft_eq,Nat.sub_mul,←Nat.pow_add,Nat.one_mul,show n+(w-n)=w by omega]
theorem gM {n w:Nat} (h:n≤w) (i:Nat):(dD n w).testBit i=(decide (w-n≤i)&&decide (i<w)):=by
 rw [vS h,Nat.testBit_shiftLeft,Nat.testBit_two_pow_sub_one]
 rw [HF]
 simp only [Hy,decide_eq_true_eq]
 omega
theorem uI {n m w:Nat} (h1:n≤w) (h2:m≤w) (h:dD n w=dD m w):n=m:=by
 have key:∀ a b,a≤w→b≤w→a<b→dD a w=dD b w→False:=fun a b ha hb hab he=>by
  have h3:=gM ha (w-b)
  rw [he,gM hb,decide_eq_true (by omega),decide_eq_true (show w-b<w by omega),decide_eq_false (show ¬w-a≤w-b by omega)] at h3
  cases h3
 rcases Nat.lt_trichotomy n m with h3|h3|h3
 ·exact absurd h (fun e=>key n m h1 h2 h3 e)
 ·exact h3
 ·exact absurd h.symm (fun e=>key m n h2 h1 h3 e)
def gU (M:Nat):Nat→Nat
 |0=>0
 |w+1=>if M.testBit w then gU M w+1 else 0
theorem kG (M:Nat):∀ w,gU M w≤w
 |0=>Ht _
 |w+1=>by unfold gU;split<;>have:=kG M w<;>omega
theorem jv (M:Nat):∀ w i,w-gU M w≤i→i<w→M.testBit i=true
 |0,i,_,h=>by omega
 |w+1,i,h1,h2=>by
  unfold gU at h1
  split at h1
  ·rename_i hb
   by_cases h:i=w
   ·rw [h];exact hb
   ·exact jv M w i (by omega) (by omega)
  ·omega
theorem nP (M:Nat):∀ w,gU M w<w→M.testBit (w-1-gU M w)=false
 |0,h=>by omega
 |w+1,h=>by
  unfold gU at h ⊢
  split
  ·rename_i hb
   rw [if_pos hb] at h
   have:=nP M w (by omega)
   rw [show w+1-1-(gU M w+1)=w-1-gU M w by omega]
   exact this
  ·rename_i hb
   simpa using hb
theorem uJ {M:Nat} {w n:Nat} (hn:n≤w) (h1:∀ i,w-n≤i→i<w→M.testBit i=true) (h2:n<w→M.testBit (w-1-n)=false):gU M w=n:=by
 have hle:=kG M w
 rcases Nat.lt_trichotomy (gU M w) n with h|h|h
 ·have h3:=nP M w (by omega)
  rw [h1 _ (by omega) (by omega)] at h3
  cases h3
 ·exact h
 ·have h3:=jv M w (w-1-n) (by omega) (by omega)
  rw [h2 (by omega)] at h3
  cases h3
def qo (w M:Nat):Option Nat:=(HX (w+1)).find? fun n=>decide (dD n w=M)
def sU (w M:Nat):Option Nat:=if (HX (w-gU M w)).all (fun i=> !M.testBit i) then some (gU M w) else none
theorem nQ {w M n:Nat} (hM:M<2 ^ w):sU w M=some n↔n≤w∧dD n w=M:=by
 unfold sU
 constructor
 ·intro h
  split at h
  ·rename_i hz
   rw [HT] at hz
   cases h
   refine ⟨kG M w,Nat.eq_of_testBit_eq fun i=> ?_⟩
   rw [gM (kG M w)]
   by_cases h1:i<w
   ·by_cases h2:w-gU M w≤i
    ·rw [jv M w i h2 h1];simp [h1,h2]
    ·have:=hz i (H5.2 (by omega))
     simp only [Bool.not_eq_true'] at this
     rw [this];simp [h2]
   ·rw [Nat.testBit_lt_two_pow (Hr hM (Ii (by decide) (by omega)))];simp [h1]
  ·cases h
 ·rintro ⟨h1,rfl⟩
  have ht:gU (dD n w) w=n:=uJ h1 (fun i a b=>by rw [gM h1];simp [a,b]) (fun h=>by rw [gM h1,decide_eq_false (by omega)];rfl)
  rw [ht,if_pos]
  rw [HT]
  intro i hi
  rw [H5] at hi
  rw [gM h1,decide_eq_false (by omega)];rfl
theorem dg {w M n:Nat}:qo w M=some n↔n≤w∧dD n w=M:=by
 unfold qo
 constructor
 ·intro h
  have h1:=List.find?_some h
  have h2:=List.mem_of_find?_eq_some h
  rw [H5] at h2
  exact ⟨by omega,by simpa using h1⟩
 ·rintro ⟨h1,h2⟩
  cases h:(HX (w+1)).find? fun n=>decide (dD n w=M) with
  |none=>
   rw [List.find?_eq_none] at h
   have:=h n (H5.2 (by omega))
   simp [h2] at this
  |some m=>
   have h3:=List.find?_some h
   have h4:=List.mem_of_find?_eq_some h
   rw [H5] at h4
   simp only [decide_eq_true_eq] at h3
   rw [uI (n:=m) (m:=n) (w:=w) (by omega) h1 (h3.trans h2.symm)]
theorem DR {w M:Nat} (hM:M<2 ^ w):qo w M=sU w M:=by
 cases h:sU w M with
 |some n=>rw [dg];exact (nQ hM).1 h
 |none=>
  cases h2:qo w M with
  |none=>rfl
  |some n=>rw [dg] at h2;rw [(nQ hM).2 h2] at h;cases h
theorem uK (w:Nat):dD w w=2 ^ w-1:=by simp [dD]
theorem ph {n w:Nat}:dD n w<2 ^ w:=by unfold dD;have:=Nat.pow_pos (n:=w) (show 0<2 by decide);have:=Nat.pow_pos (n:=w-n) (show 0<2 by decide);omega
structure aA where
 tab:Int
 pats:List Pt
 len:Int
 prio:Int
 run:Rn
theorem kH:∀ n:Fin 129,nv (aX n.val) (aP n.val)=2 ^ n.val-1∧aW (aX n.val)∧aW (aP n.val):=by
 have h:∀ n:Fin 129,nv (aX n.val) (aP n.val)=2 ^ n.val-1∧(0≤aX n.val∧aX n.val<18446744073709551616)∧(0≤aP n.val∧aP n.val<18446744073709551616):=by decide+kernel
 exact h
def fU (w:Int) (p:Pt):Bool:=decide (p.mh=aX (eu w))&&decide (p.ml=aP (eu w))
theorem zx {w:Int} {p:Pt} (h:fT p) (hw:aj w=true):fU w p=true↔nv p.mh p.ml=dD w.toNat w.toNat:=by
 rw [aC] at hw
 have hc:eu w=w.toNat:=by unfold eu;rw [if_neg (by omega)];omega
 obtain ⟨e,h1,h2⟩:=kH ⟨w.toNat,by omega⟩
 simp only at e h1 h2
 unfold fU
 rw [Hy,decide_eq_true_eq,decide_eq_true_eq,hc,←zu h.2.2.1 h.2.2.2 h1 h2,e,uK]
def m9 (f:Nat→Nat→Option Nat) (m:Bool) (w:Int) (x:Pt):Int×Bool:=if m then (match f w.toNat (nv x.mh x.ml) with|some n=>((n:Int),true)|none=>(0,false)) else (0,false)
def j9 (w:Int) (x:Pt):Int×Bool:=m9 qo (eI w x) w x
def yA (w:Int) (x:Pt):Int×Bool:=m9 sU (eJ w x) w x
theorem ES {w:Int} {x:Pt} (h:fT x):j9 w x=yA w x:=by
 unfold j9 yA m9
 rw [pg h]
 by_cases hm:eJ w x=true
 ·rw [if_pos hm,if_pos hm]
  rw [←pg h] at hm
  rw [DR ((iS h).1 hm).2.2.1]
 ·rw [if_neg hm,if_neg hm]
def lF (w k:Int) (x:Pt) (n:Int):Option Int:=
 if eI w x=false then none else if k=1∧(j9 w x).1<w then none else if k=2∧(j9 w x).2=false then none else if k=2 then some (j9 w x).1 else some n
def vT (w k:Int) (x:Pt) (n:Int):Option Int:=
 if eJ w x=false then none else if k=1∧fU w x=false then none else if k=2 then (if (yA w x).2=false then none else some (yA w x).1) else some n
theorem Cs {w:Int} {x:Pt} (h:fT x) (hm:eI w x=true):(j9 w x).1<w↔fU w x=false:=by
 obtain ⟨hw,-,h2,-⟩:=(iS h).1 hm
 have hw':=(aC w).1 hw
 have key:fU w x=true↔¬(j9 w x).1<w:=by
  rw [zx h hw]
  unfold j9 m9
  rw [if_pos hm]
  cases hl:qo w.toNat (nv x.mh x.ml) with
  |some n=>
   obtain ⟨a,b⟩:=dg.1 hl
   simp only
   constructor
   ·intro e
    have:=uI a (Ht _) (b.trans e)
    omega
   ·intro e
    have:n=w.toNat:=by omega
    rw [←b,this]
  |none=>
   simp only
   constructor
   ·intro e
    have:=dg.2 ⟨Ht _,e.symm⟩
    rw [hl] at this;cases this
   ·intro e;omega
 cases hi:fU w x<;>simp_all
theorem DS {w k:Int} {x:Pt} {n:Int} (h:fT x):lF w k x n=vT w k x n:=by
 unfold lF vT
 rw [←pg h,←ES h]
 by_cases hm:eI w x=false
 ·rw [if_pos hm,if_pos hm]
 ·rw [if_neg hm,if_neg hm]
  have hm':eI w x=true:=by simpa using hm
  have hq:=Cs h hm'
  by_cases h1:k=1∧(j9 w x).1<w
  ·rw [if_pos h1,if_pos (show k=1∧fU w x=false from ⟨h1.1,hq.1 h1.2⟩)]
  ·rw [if_neg h1,if_neg (show ¬(k=1∧fU w x=false) from fun e=>h1 ⟨e.1,hq.2 e.2⟩)]
   by_cases h2:k=2
   ·by_cases h3:(j9 w x).2=false
    ·rw [if_pos ⟨h2,h3⟩,if_pos h2,if_pos h3]
    ·rw [if_neg (show ¬(k=2∧(j9 w x).2=false) from fun e=>h3 e.2),if_pos h2,if_pos h2,if_neg h3]
   ·rw [if_neg (show ¬(k=2∧(j9 w x).2=false) from fun e=>h2 e.1),if_neg h2,if_neg h2]
def dn (f:Nat→Pt→Int→Option Int):Nat→List Pt→Int→Option Int
 |_,[],n=>some n
 |i,x::l,n=>match f i x n with
  |none=>none
  |some m=>dn f (i+1) l m
theorem lG {f g:Nat→Pt→Int→Option Int}:∀ (l:List Pt) (i:Nat) (n:Int),(∀ x∈l,∀ i n,f i x n=g i x n)→dn f i l n=dn g i l n
 | [],_,_,_=>rfl
 |x::l,i,n,h=>by
  unfold dn
  rw [h x List.mem_cons_self]
  cases g i x n with
  |none=>rfl
  |some m=>exact lG l (i+1) m fun y hy=>h y (List.mem_cons_of_mem _ hy)
theorem lH (f:Nat→Pt→Int→Option Int):∀ (a b:List Pt) (i:Nat) (n:Int),dn f i (a++b) n=(dn f i a n).bind fun m=>dn f (i+a.length) b m
 | [],_,_,_=>rfl
 |x::a,b,i,n=>by
  rw [List.cons_append,dn,dn]
  cases f i x n with
  |none=>rfl
  |some m=>
   simp only
   rw [lH f a b (i+1) m]
   rw [show i+1+a.length=i+(x::a).length by rw [HN];omega]
theorem nR {f:Nat→Pt→Int→Option Int} {l:List Pt} {k:Nat} {n m o:Int} (hk:k<l.length) (h:dn f 0 (l.take k) n=some m) (hf:f k l[k] m=some o):dn f 0 (l.take (k+1)) n=some o:=by
 rw [H9 hk,lH,h]
 simp only [HP,H3,HO,Nat.min_eq_left (HL hk)]
 unfold dn
 rw [hf]
 rfl
theorem nS {f:Nat→Pt→Int→Option Int} {l:List Pt} {k:Nat} {n m:Int} (hk:k<l.length) (h:dn f 0 (l.take k) n=some m) (hf:f k l[k] m=none):dn f 0 l n=none:=by
 conv=>lhs;rw [←Ig k l]
 rw [lH,h]
 simp only [HP,H3,HO,Nat.min_eq_left (HL hk)]
 rw [Iu hk]
 unfold dn
 rw [hf]
def qp (p:Lp) (t:fJ) (i:Nat):Int:=(((t.keys[i]?).map (eO p (-1))).getD none).getD 0
def DT (p:Lp) (t:fJ) (i:Nat):Int:=(((t.keys[i]?).map (iJ p (-1))).getD none).getD 0
def im (t:fJ) (i:Nat):Int:=t.kinds.getD i 0
def g9 (e:aA):Bool:=decide (0≤e.prio)&&decide (e.prio≤65536)
def fq (p:Lp) (e:aA):Bool:=match eC p.tabs e.tab with
 |none=>false
 |some t=>g9 e&&(decide (e.pats.length=t.keys.length)&&(dH p t.acts e.run&&decide (dn (fun i x n=>lF (qp p t i) (im t i) x n) 0 e.pats 0=some e.len)))
def cg (p:Lp) (e:aA):Bool:=match eC p.tabs e.tab with
 |none=>false
 |some t=>g9 e&&(decide (e.pats.length=t.keys.length)&&(dH p t.acts e.run&&decide (dn (fun i x n=>vT (DT p t i) (im t i) x n) 0 e.pats 0=some e.len)))
def fv (p:Lp) (l:List aA):Bool:=bR p&&(decide (l.length≤64)&&l.all (fq p))
def jN (p:Lp) (l:List aA):Bool:=g8 p&&(decide (l.length≤64)&&l.all (cg p))
def FS (e:aA):Prop:=∀ x∈e.pats,fT x
theorem ET {p:Lp} {t:fJ} (h:∀ c∈t.keys,sQ c) (i:Nat):qp p t i=DT p t i:=by
 unfold qp DT
 by_cases hi:i<t.keys.length
 ·rw [HA hi]
  simp only [Option.map_some,If]
  rw [oU p (-1) _ (h _ (HE hi))]
 ·rw [List.getElem?_eq_none (by omega)];rfl
theorem DU {p:Lp} {e:aA} (hp:DM p) (he:FS e):fq p e=cg p e:=by
 unfold fq cg
 cases ht:eC p.tabs e.tab with
 |none=>rfl
 |some t=>
  simp only
  rw [lG e.pats 0 0 fun x hx i n=>by rw [DS (he x hx),ET (hp.tab t (oW ht))]]
theorem Ct {p:Lp} {l:List aA} (hp:DM p) (h:∀ e∈l,FS e):fv p l=jN p l:=by
 unfold fv jN
 rw [zn p hp]
 congr 2
 rw [HF,HT,HT]
 exact forall_congr' fun e=>forall_congr' fun he=>by rw [DU hp (h e he)]
structure bn where
 kind:Int
 sw:Int
 pos:Int
 e:aA
def e0:aA:=⟨0,[],0,0,⟨0,[]⟩⟩
def lI (p:Lp) (l:List (List aA)) (c:bn):Bool:=(decide (1≤c.kind)&&decide (c.kind≤3))&&(bR p&&((decide (0≤c.sw)&&decide (c.sw<l.length))&&(decide (c.kind=2) ||fv p [c.e])))
def ed (l:List (List aA)) (c:bn):List aA:=l.getD c.sw.toNat []
def sA (x:List aA) (c:bn):Bool:=decide (0≤c.pos)&&(decide (c.pos<x.length) ||(decide (c.kind=1)&&decide (c.pos=x.length)))
def uL (x:List aA) (c:bn):Bool:=decide (c.kind=1)&&decide (64≤x.length)
def ch (x:List aA) (c:bn):List aA:=
 x.take c.pos.toNat++((if c.kind=2 then [] else [c.e])++x.drop (if c.kind=1 then c.pos.toNat else c.pos.toNat+1))
def bM (x:List aA) (c:bn):bn:=if c.kind=1 then ⟨2,c.sw,c.pos,e0⟩ else if c.kind=2 then ⟨1,c.sw,c.pos,x.getD c.pos.toNat e0⟩ else ⟨3,c.sw,c.pos,x.getD c.pos.toNat e0⟩
def ke (p:Lp) (l:List (List aA)) (c:bn):Except Int (List (List aA)×bn):=
 if lI p l c=false then .error 2 else if sA (ed l c) c=false then .error 7 else if uL (ed l c) c=true then .error 5
 else .ok (l.set c.sw.toNat (ch (ed l c) c),bM (ed l c) c)
def cQ (p:Lp):List (List aA)→List bn→Nat→List bn→Except (Nat×Int) (List (List aA)×List bn)
 |l,bs,_,[]=>.ok (l,bs)
 |l,bs,n,c::cs=>match ke p l c with
  | .error e=>.error (n,e)
  | .ok r=>cQ p r.1 (r.2::bs) (n+1) cs
def lJ (p:Lp) (l:List (List aA)):Prop:=∀ x∈l,x= []∨fv p x=true
def zy (a b:bn):Prop:=a.kind=b.kind∧a.sw=b.sw∧a.pos=b.pos∧(a.kind≠2→a.e=b.e)
theorem zz {p:Lp} {l:List (List aA)} {a b:bn} (h:zy a b):ke p l a=ke p l b:=by
 obtain ⟨k,s,q,e⟩:=a
 obtain ⟨k',s',q',e'⟩:=b
 obtain ⟨rfl,rfl,rfl,he⟩:=h
 simp only at he
 by_cases h2:k=2
 ·subst h2
  have h1:lI p l ⟨2,s,q,e⟩=lI p l ⟨2,s,q,e'⟩:=by unfold lI;simp
  unfold ke
  rw [h1]
  rfl
 ·obtain rfl:=he h2
  rfl
theorem qq {p:Lp} {e:aA}:fv p [e]=(bR p&&fq p e):=by
 unfold fv
 simp
theorem gq {p:Lp} {x:List aA}:fv p x=true↔bR p=true∧x.length≤64∧∀ e∈x,fq p e=true:=by
 unfold fv
 simp [Hy,HT]
theorem dx {l:List (List aA)} {c:bn} (h:c.sw.toNat<l.length):ed l c=l[c.sw.toNat]:=by
 unfold ed
 rw [Iq,HA h];rfl
theorem pi {p:Lp} {l:List (List aA)} {c:bn} {r:List (List aA)×bn} (h:ke p l c=.ok r):
  (1≤c.kind∧c.kind≤3)∧bR p=true∧(0≤c.sw∧c.sw.toNat<l.length)∧(c.kind≠2→fq p c.e=true)∧0≤c.pos∧
   (c.kind=1→c.pos.toNat≤(ed l c).length∧(ed l c).length<64)∧(c.kind≠1→c.pos.toNat<(ed l c).length)∧
   r=(l.set c.sw.toNat (ch (ed l c) c),bM (ed l c) c):=by
 unfold ke at h
 split at h
 ·cases h
 ·rename_i h1
  split at h
  ·cases h
  ·rename_i h2
   split at h
   ·cases h
   ·rename_i h3
    cases h
    rw [Bool.not_eq_false] at h1 h2
    rw [Bool.not_eq_true] at h3
    unfold lI at h1
    unfold sA at h2
    unfold uL at h3
    simp only [Hy,HS,decide_eq_true_eq] at h1 h2
    rw [Ib,decide_eq_false_iff_not,decide_eq_false_iff_not] at h3
    obtain ⟨hk,hm,hs,he⟩:=h1
    refine ⟨hk,hm,⟨hs.1,by omega⟩,fun hn=> ?_,h2.1,fun h1=>⟨?_,?_⟩,fun hn=> ?_,rfl⟩
    ·rcases he with he|he
     ·exact absurd he hn
     ·rw [qq,Hy] at he
      exact he.2
    ·rcases h2.2 with h|h<;>omega
    ·rcases h3 with h|h
     ·exact absurd h1 h
     ·omega
    ·rcases h2.2 with h|h
     ·omega
     ·exact absurd h.1 hn
theorem sW {p:Lp} {l:List (List aA)} {c:bn} (hk:1≤c.kind∧c.kind≤3) (hm:bR p=true) (hs:0≤c.sw∧c.sw.toNat<l.length) (he:c.kind≠2→fq p c.e=true) (hp:0≤c.pos)
  (h1:c.kind=1→c.pos.toNat≤(ed l c).length∧(ed l c).length<64) (h2:c.kind≠1→c.pos.toNat<(ed l c).length):
  ke p l c=.ok (l.set c.sw.toNat (ch (ed l c) c),bM (ed l c) c):=by
 unfold ke
 have e1:lI p l c=true:=by
  unfold lI
  simp only [Hy,HS,decide_eq_true_eq]
  refine ⟨hk,hm,⟨hs.1,by omega⟩,?_⟩
  by_cases h:c.kind=2
  ·exact .inl h
  ·refine .inr ?_
   rw [qq,hm,he h];rfl
 have e2:sA (ed l c) c=true:=by
  unfold sA
  simp only [Hy,HS,decide_eq_true_eq]
  refine ⟨hp,?_⟩
  by_cases h:c.kind=1
  ·have:=(h1 h).1
   by_cases h':c.pos<((ed l c).length:Int)
   ·exact .inl h'
   ·exact .inr ⟨h,by omega⟩
  ·have:=h2 h
   exact .inl (by omega)
 have e3:uL (ed l c) c=false:=by
  unfold uL
  rw [Ib,decide_eq_false_iff_not,decide_eq_false_iff_not]
  by_cases h:c.kind=1
  ·have:=(h1 h).2
   exact .inr (by omega)
  ·exact .inl h
 rw [if_neg (by rw [e1];decide),if_neg (by rw [e2];decide),if_neg (by rw [e3];decide)]
theorem DV {p:Lp} {l:List (List aA)} {c:bn} {r:List (List aA)×bn} (h:ke p l c=.ok r) (hR:lJ p l):lJ p r.1:=by
 obtain ⟨hk,hm,hs,he,hp,h1,h2,rfl⟩:=pi h
 intro x hx
 rcases List.mem_or_eq_of_mem_set hx with hx|rfl
 ·exact hR x hx
 ·refine .inr (gq.2 ⟨hm,?_,fun e hE=> ?_⟩)
  ·have hx0:(ed l c).length≤64:=by
    rw [dx hs.2]
    rcases hR _ (HE hs.2) with h0|h0
    ·rw [h0];simp
    ·exact (gq.1 h0).2.1
   unfold ch
   simp only [HM,HO,HR]
   by_cases hk1:c.kind=1
   ·have:=h1 hk1
    rw [if_neg (by omega),if_pos hk1]
    simp;omega
   ·have:=h2 hk1
    rw [if_neg hk1]
    split<;>simp<;>omega
  ·unfold ch at hE
   have hin:∀ y∈ed l c,fq p y=true:=fun y hy=>by
    rw [dx hs.2] at hy
    rcases hR _ (HE hs.2) with h0|h0
    ·rw [h0] at hy;cases hy
    ·exact (gq.1 h0).2.2 y hy
   rcases HZ.1 hE with hE|hE
   ·exact hin _ (List.mem_of_mem_take hE)
   ·rcases HZ.1 hE with hE|hE
    ·split at hE
     ·cases hE
     ·rename_i hn
      rw [List.mem_singleton] at hE
      subst hE
      exact he hn
    ·exact hin _ (List.mem_of_mem_drop hE)
theorem gN {x:List aA} {i:Nat} (h:i<x.length):x.getD i e0=x[i]:=by rw [Iq,HA h];rfl
theorem Cu {p:Lp} {l:List (List aA)} {c:bn} {r:List (List aA)×bn} (h:ke p l c=.ok r) (hR:lJ p l):∃ b,ke p r.1 r.2=.ok (l,b)∧zy b c:=by
 obtain ⟨hk,hm,hs,he,hp,h1,h2,rfl⟩:=pi h
 obtain ⟨k,s,q,e⟩:=c
 simp only at hk hs he hp h1 h2
 have hx:=dx (l:=l) (c:=⟨k,s,q,e⟩) hs.2
 simp only at hx
 have hset:∀ y,(l.set s.toNat y).set s.toNat (ed l ⟨k,s,q,e⟩)=l:=fun y=>by
  rw [List.set_set,hx,List.set_getElem_self]
 have hone:∀ y∈ed l ⟨k,s,q,e⟩,fq p y=true:=fun y hy=>by
  rw [hx] at hy
  rcases hR _ (HE hs.2) with h0|h0
  ·rw [h0] at hy;cases hy
  ·exact (gq.1 h0).2.2 y hy
 have hlen:(ed l ⟨k,s,q,e⟩).length≤64:=by
  rw [hx]
  rcases hR _ (HE hs.2) with h0|h0
  ·rw [h0];simp
  ·exact (gq.1 h0).2.1
 have hsw:∀ (y:List aA) (c':bn),c'.sw=s→ed (l.set s.toNat y) c'=y:=fun y c' h'=>by
  rw [dx (by rw [h',List.length_set];exact hs.2)]
  simp [h']
 generalize hX:ed l ⟨k,s,q,e⟩=x at*
 clear hx
 simp only
 rcases (show k=1∨k=2∨k=3 by omega) with rfl|rfl|rfl
 ·have hb:bM x ⟨1,s,q,e⟩=⟨2,s,q,e0⟩:=by unfold bM;simp
  rw [hb]
  obtain ⟨a1,a2⟩:=h1 rfl
  have hrow:ch x ⟨1,s,q,e⟩=x.take q.toNat++e::x.drop q.toNat:=by unfold ch;simp
  have hlt:(x.take q.toNat).length=q.toNat:=by rw [HO];omega
  refine ⟨bM (ch x ⟨1,s,q,e⟩) ⟨2,s,q,e0⟩,sW (c:=⟨2,s,q,e0⟩) (by simp) hm ⟨hs.1,by rw [List.length_set];exact hs.2⟩ (fun hn=>absurd rfl hn) hp (fun h=>by simp at h) (fun _=> ?_)|>.trans ?_,?_⟩
  ·rw [hsw _ _ rfl,hrow]
   simp only [HM,HN,HR]
   omega
  ·rw [hsw _ _ rfl]
   simp only
   congr 2
   rw [show ch (ch x ⟨1,s,q,e⟩) ⟨2,s,q,e0⟩=x from by
    rw [hrow]
    unfold ch
    simp only [if_true,List.nil_append]
    rw [if_neg (by decide),Il (by omega),H6 (by omega),List.drop_append]
    rw [Im (by omega),hlt]
    simp]
   exact hset _
  ·unfold bM
   rw [hrow]
   refine ⟨by simp,by simp,by simp,fun _=> ?_⟩
   simp only [if_neg (show ¬(2:Int)=1 by decide),if_true]
   rw [gN (by simp only [HM,HN,HR];omega)]
   rw [List.getElem_append_right (by omega)]
   simp [hlt]
 ·have hb:bM x ⟨2,s,q,e⟩=⟨1,s,q,x.getD q.toNat e0⟩:=by unfold bM;simp
  rw [hb]
  have a1:=h2 (by decide)
  have hrow:ch x ⟨2,s,q,e⟩=x.take q.toNat++x.drop (q.toNat+1):=by unfold ch;simp
  have hlt:(x.take q.toNat).length=q.toNat:=by rw [HO];omega
  rw [gN a1]
  refine ⟨bM (ch x ⟨2,s,q,e⟩) ⟨1,s,q,x[q.toNat]⟩,sW (c:=⟨1,s,q,x[q.toNat]⟩) (by simp) hm ⟨hs.1,by rw [List.length_set];exact hs.2⟩ (fun _=>hone _ (HE a1)) hp (fun _=> ?_) (fun h=>absurd rfl h)|>.trans ?_,?_⟩
  ·rw [hsw _ _ rfl,hrow]
   simp only [HM,HR]
   omega
  ·rw [hsw _ _ rfl]
   simp only
   congr 2
   rw [show ch (ch x ⟨2,s,q,e⟩) ⟨1,s,q,x[q.toNat]⟩=x from by
    rw [hrow]
    unfold ch
    simp only [if_true]
    rw [if_neg (by decide),Il (by omega),H6 (by omega),List.drop_append]
    rw [Im (by omega),hlt]
    simp only [Nat.sub_self,List.drop_zero,List.nil_append,List.singleton_append]
    rw [←Iu a1,Ig]]
   exact hset _
  ·unfold bM
   exact ⟨by simp,by simp,by simp,fun h=>by simp at h⟩
 ·have hb:bM x ⟨3,s,q,e⟩=⟨3,s,q,x.getD q.toNat e0⟩:=by unfold bM;simp
  rw [hb]
  have a1:=h2 (by decide)
  have hrow:ch x ⟨3,s,q,e⟩=x.take q.toNat++e::x.drop (q.toNat+1):=by unfold ch;simp
  have hlt:(x.take q.toNat).length=q.toNat:=by rw [HO];omega
  rw [gN a1]
  refine ⟨bM (ch x ⟨3,s,q,e⟩) ⟨3,s,q,x[q.toNat]⟩,sW (c:=⟨3,s,q,x[q.toNat]⟩) (by simp) hm ⟨hs.1,by rw [List.length_set];exact hs.2⟩ (fun _=>hone _ (HE a1)) hp (fun h=>by simp at h) (fun _=> ?_)|>.trans ?_,?_⟩
  ·rw [hsw _ _ rfl,hrow]
   simp only [HM,HN,HR]
   omega
  ·rw [hsw _ _ rfl]
   simp only
   congr 2
   rw [show ch (ch x ⟨3,s,q,e⟩) ⟨3,s,q,x[q.toNat]⟩=x from by
    rw [hrow]
    unfold ch
    simp only [if_neg (show ¬(3:Int)=2 by decide),if_neg (show ¬(3:Int)=1 by decide)]
    rw [Il (by omega),H6 (by omega),List.drop_append]
    rw [Im (by omega),hlt]
    simp only [Nat.add_sub_cancel_left,List.drop_succ_cons,List.drop_zero,List.nil_append,List.singleton_append]
    rw [←Iu a1,Ig]]
   exact hset _
  ·unfold bM
   rw [hrow]
   refine ⟨by simp,by simp,by simp,fun _=> ?_⟩
   simp only [if_neg (show ¬(3:Int)=2 by decide),if_neg (show ¬(3:Int)=1 by decide)]
   rw [gN (by simp only [HM,HN,HR];omega)]
   rw [List.getElem_append_right (by omega)]
   simp [hlt]
def zA:List bn→List bn→Prop
 | [],[]=>True
 |a::x,b::y=>zy a b∧zA x y
 |_,_=>False
theorem qr {p:Lp}:∀ (x y:List bn) (l:List (List aA)) (bs:List bn) (n:Nat),zA x y→cQ p l bs n x=cQ p l bs n y
 | [],[],_,_,_,_=>rfl
 |a::x,b::y,l,bs,n,h=>by
  unfold cQ
  rw [zz h.1]
  cases ke p l b with
  |error e=>rfl
  |ok r=>exact qr x y r.1 (r.2::bs) (n+1) h.2
theorem uM {p:Lp}:∀ (x y:List bn) (l:List (List aA)) (bs:List bn) (n:Nat) (l1:List (List aA)) (b1:List bn),cQ p l bs n x=.ok (l1,b1)→cQ p l bs n (x++y)=cQ p l1 b1 (n+x.length) y
 | [],y,l,bs,n,l1,b1,h=>by
  unfold cQ at h
  cases h
  rfl
 |c::x,y,l,bs,n,l1,b1,h=>by
  rw [cQ] at h
  rw [List.cons_append,cQ]
  cases hc:ke p l c with
  |error e=>rw [hc] at h;cases h
  |ok r=>
   rw [hc] at h
   show cQ p r.1 (r.2::bs) (n+1) (x++y)=_
   rw [uM x y r.1 (r.2::bs) (n+1) l1 b1 h]
   rw [HN,show n+1+x.length=n+(x.length+1) by omega]
theorem qt {p:Lp}:∀ (cs:List bn) (l:List (List aA)) (bs:List bn) (n:Nat) (L:List (List aA)) (B:List bn),lJ p l→cQ p l bs n cs=.ok (L,B)→
  ∃ b1,B=b1++bs∧b1.length=cs.length∧lJ p L∧∀ (fs:List bn) (m:Nat),∃ F,cQ p L fs m b1=.ok (l,F++fs)∧zA F cs
 | [],l,bs,n,L,B,hR,h=>by
  unfold cQ at h
  cases h
  exact ⟨[],rfl,rfl,hR,fun fs m=>⟨[],rfl,trivial⟩⟩
 |c::cs,l,bs,n,L,B,hR,h=>by
  rw [cQ] at h
  cases hc:ke p l c with
  |error e=>rw [hc] at h;cases h
  |ok r=>
   rw [hc] at h
   obtain ⟨b1,e1,e2,e3,e4⟩:=qt cs r.1 (r.2::bs) (n+1) L B (DV hc hR) h
   obtain ⟨b,g1,g2⟩:=Cu hc hR
   refine ⟨b1++ [r.2],by rw [e1];simp,by simp [e2],e3,fun fs m=> ?_⟩
   obtain ⟨F,f1,f2⟩:=e4 fs m
   refine ⟨b::F,?_,g2,f2⟩
   rw [uM b1 [r.2] L fs m r.1 (F++fs) f1,cQ,g1]
   rfl
theorem qu {p:Lp}:∀ (cs:List bn) (l:List (List aA)) (bs:List bn) (n k:Nat) (e:Int),cQ p l bs n cs=.error (k,e)→k<n+cs.length∧e≠0
 | [],l,bs,n,k,e,h=>by unfold cQ at h;cases h
 |c::cs,l,bs,n,k,e,h=>by
  rw [cQ] at h
  cases hc:ke p l c with
  |error x=>
   rw [hc] at h
   cases h
   refine ⟨by simp,?_⟩
   unfold ke at hc
   split at hc
   ·cases hc;decide
   ·split at hc
    ·cases hc;decide
    ·split at hc
     ·cases hc;decide
     ·cases hc
  |ok r=>
   rw [hc] at h
   have:=qu cs r.1 (r.2::bs) (n+1) k e h
   simp only [HN]
   omega
theorem vU {p:Lp} {l:List (List aA)} {c:bn} {r:List (List aA)×bn} {M:Nat} (h:ke p l c=.ok r) (hM:64≤M) (hr:∀ x∈l,x.length≤M):r.1.length=l.length∧(∀ x∈r.1,x.length≤M)∧1≤r.2.kind∧r.2.kind≤3:=by
 obtain ⟨hk,-,hs,-,hp,h1,h2,rfl⟩:=pi h
 refine ⟨by simp,fun x hx=> ?_,?_⟩
 ·rcases List.mem_or_eq_of_mem_set hx with hx|rfl
  ·exact hr x hx
  ·have hrow:=hr (ed l c) (by rw [dx hs.2];exact HE _)
   unfold ch
   rcases (show c.kind=1∨c.kind=2∨c.kind=3 by omega) with e|e|e
   ·have:=h1 e
    simp [e]
    omega
   ·simp [e]
    omega
   ·have:=h2 (by omega)
    simp [e]
    omega
 ·show 1≤(bM (ed l c) c).kind∧(bM (ed l c) c).kind≤3
  unfold bM
  split
  ·exact (by simp)
  ·split
   ·exact (by simp)
   ·exact (by simp)
theorem jw {p:Lp} {M:Nat} (hM:64≤M):∀ (cs:List bn) (l:List (List aA)) (bs:List bn) (n:Nat) (r:List (List aA)×List bn),(∀ x∈l,x.length≤M)→(∀ c∈bs,1≤c.kind∧c.kind≤3)→cQ p l bs n cs=.ok r→r.1.length=l.length∧(∀ x∈r.1,x.length≤M)∧(∀ c∈r.2,1≤c.kind∧c.kind≤3)∧r.2.length=bs.length+cs.length
 | [],l,bs,n,r,hl,hb,h=>by
  unfold cQ at h
  cases h
  exact ⟨rfl,hl,hb,rfl⟩
 |c::cs,l,bs,n,r,hl,hb,h=>by
  rw [cQ] at h
  cases hc:ke p l c with
  |error e=>rw [hc] at h;cases h
  |ok x=>
   rw [hc] at h
   obtain ⟨a1,a2,a3⟩:=vU hc hM hl
   obtain ⟨e1,e2,e3,e4⟩:=jw hM cs x.1 (x.2::bs) (n+1) r a2 (fun y hy=>by
    rcases HU.1 hy with rfl|hy
    ·exact a3
    ·exact hb y hy) h
   refine ⟨e1.trans a1,e2,e3,?_⟩
   rw [e4]
   simp only [HN]
   omega
theorem vV {p:Lp} {l:List (List aA)} {cs:List bn} {r:List (List aA)×List bn} (hR:lJ p l) (h:cQ p l [] 0 cs=.ok r):
  r.2.length=cs.length∧∃ F,cQ p r.1 [] 0 r.2=.ok (l,F)∧cQ p l [] 0 F=.ok r:=by
 obtain ⟨b1,g1,g2,g3,g4⟩:=qt cs l [] 0 r.1 r.2 hR h
 rw [List.append_nil] at g1
 obtain ⟨F,f1,f2⟩:=g4 [] 0
 rw [List.append_nil,←g1] at f1
 refine ⟨by rw [g1,g2],F,f1,?_⟩
 rw [qr F cs l [] 0 f2]
 exact h
section
open Go.Lib
theorem lK (s:ByteArray) (a b:Nat):(s.extract a b).data.toList=(s.data.toList.take b).drop a:=by
 simp only [ByteArray.data_extract,Array.toList_extract,List.extract_eq_take_drop]
 rw [List.drop_take]
theorem iT (s:ByteArray) (a:Nat):(s.extract a s.size).data.toList=s.data.toList.drop a:=by
 rw [lK,H6 (by rw [size_eq];exact Ht _)]
theorem gu (s:ByteArray) (b:Nat):(s.extract 0 b).data.toList=s.data.toList.take b:=by rw [lK,List.drop_zero]
theorem gO (s:ByteArray) {k:Nat} (h:k<s.size):s.data.toList.drop k=s[k]::s.data.toList.drop (k+1):=by
 rw [Iu (by rw [←size_eq];exact h)]
 rfl
def pU (c:UInt8):Bool:=c==32 ||c==9 ||c==10
def dq:Bool→List UInt8→Nat
 |_,[]=>0
 |false,c::r=>if pU c then dq false r+1 else if c=47∧r.head? =some 47 then dq true r+1 else 0
 |true,c::r=>if c=10 then dq false r+1 else dq true r+1
theorem jx:∀ (b:Bool) (l:List UInt8),dq b l≤l.length
 |_,[]=>by simp [dq]
 |false,c::r=>by
  have h1:=jx false r
  have h2:=jx true r
  simp only [dq,HN]
  split
  ·omega
  ·split<;>omega
 |true,c::r=>by
  have h1:=jx false r
  have h2:=jx true r
  simp only [dq,HN]
  split<;>omega
theorem qv {l:List UInt8} (h:hasPrefix l [47,47]=true):dq false l=dq true l:=by
 match l,h with
 | [],h=>simp [hasPrefix,HY] at h
 | [a],h=>simp [hasPrefix,HY] at h
 |a::b::r,h=>
  simp [hasPrefix,HY] at h
  obtain ⟨rfl,rfl⟩:=h
  simp [dq,pU]
theorem zB {l:List UInt8} (h:hasPrefix l [47,47]=false) (hw:∀ c r,l=c::r→pU c=false):dq false l=0:=by
 match l,h with
 | [],_=>rfl
 |c::r,h=>
  have:=hw c r rfl
  simp only [dq,this,H2,if_false]
  rw [if_neg]
  rintro ⟨rfl,h2⟩
  cases r with
  |nil=>simp at h2
  |cons b r=>simp at h2;subst h2;simp [hasPrefix,HY] at h
theorem lL:∀ (l:List UInt8),if indexByte l 10= -1 then dq true l=l.length else ∃ n:Nat,indexByte l 10=n∧n<l.length∧dq true l=n+dq false (l.drop n)
 | []=>by simp [indexByte,dq]
 |c::r=>by
  have ih:=lL r
  have hge:=indexByte_ge r 10
  by_cases hc:c=10
  ·subst hc
   have hi:indexByte (10::r) 10=0:=by simp [indexByte]
   rw [if_neg (by omega)]
   refine ⟨0,by simp [indexByte],by simp,?_⟩
   simp [dq,pU]
  ·have hc':(c==10)=false:=by simpa using hc
   by_cases hn:indexByte r 10= -1
   ·rw [if_pos hn] at ih
    have hi:indexByte (c::r) 10= -1:=by simp [indexByte,hc',hn]
    rw [if_pos hi]
    simp only [dq,if_neg hc,ih,HN]
   ·rw [if_neg hn] at ih
    obtain ⟨n,h1,h2,h3⟩:=ih
    have hi:indexByte (c::r) 10=(n+1:Nat):=by simp [indexByte,hc',hn,h1]
    rw [if_neg (by omega)]
    refine ⟨n+1,hi,by simp;omega,?_⟩
    simp only [dq,if_neg hc,h3,List.drop_succ_cons]
    omega
def dh (s:ByteArray) (k:Nat):Nat:=k+dq false (s.data.toList.drop k)
theorem lM {s:ByteArray} {k:Nat} (h:k<s.size) (hw:pU s[k]=true):dh s (k+1)=dh s k:=by
 unfold dh
 rw [gO s h]
 simp only [dq,hw,if_true]
 omega
theorem vW {s:ByteArray} {k:Nat} (h:¬k<s.size):dh s k=k:=by
 unfold dh
 rw [List.drop_eq_nil_of_le (by rw [←size_eq];omega)]
 rfl
theorem sX {s:ByteArray} {k:Nat} (h:k<s.size) (hw:pU s[k]=false) (hp:hasPrefix (s.data.toList.drop k) [47,47]=false):dh s k=k:=by
 unfold dh
 rw [zB hp (fun c r e=>by rw [gO s h] at e;injection e with e1 e2;rw [←e1];exact hw)]
 rfl
theorem vX {s:ByteArray} {k:Nat} (h:k≤s.size) (hp:hasPrefix (s.data.toList.drop k) [47,47]=true) (hi:indexByte (s.data.toList.drop k) 10= -1):dh s k=s.size:=by
 have:=lL (s.data.toList.drop k)
 rw [if_pos hi] at this
 unfold dh
 rw [qv hp,this,HR,←size_eq]
 omega
theorem sY {s:ByteArray} {k:Nat} (h:k≤s.size) (hp:hasPrefix (s.data.toList.drop k) [47,47]=true) (hi:indexByte (s.data.toList.drop k) 10≠ -1):∃ n:Nat,indexByte (s.data.toList.drop k) 10=n∧k+n<s.size∧1≤n∧dh s (k+n)=dh s k:=by
 have:=lL (s.data.toList.drop k)
 rw [if_neg hi] at this
 obtain ⟨n,h1,h2,h3⟩:=this
 rw [HR,←size_eq] at h2
 have h0:n≠0:=by
  rintro rfl
  match hl:s.data.toList.drop k,hp,h1 with
  | [],hp,_=>simp [hasPrefix,HY] at hp
  | [a],hp,_=>simp [hasPrefix,HY] at hp
  |a::b::r,hp,h1=>
   simp [hasPrefix,HY] at hp
   obtain ⟨rfl,rfl⟩:=hp
   have hge:=indexByte_ge r 10
   by_cases hd:indexByte r 10= -1
   ·simp [indexByte,hd] at h1
   ·have hd1:indexByte r 10+1≠ -1:=by omega
    simp [indexByte,hd,hd1] at h1
    omega
 refine ⟨n,h1,by omega,by omega,?_⟩
 unfold dh
 rw [qv hp,h3,List.drop_drop]
 omega
theorem lO (c:UInt8):pU c=true↔((c.toNat:Int)=32∨(c.toNat:Int)=9∨(c.toNat:Int)=10):=by
 have h:∀ n:UInt8,c=n↔(c.toNat:Int)=(n.toNat:Int):=fun n=>⟨fun e=>by rw [e],fun e=>UInt8.toNat_inj.1 (by omega)⟩
 have h1:=h 32
 have h2:=h 9
 have h3:=h 10
 simp only [pU,HS,beq_iff_eq]
 rw [h1,h2,h3]
 show (_=(32:Int)∨_=(9:Int))∨_=(10:Int)↔_
 omega
def aD:List (List UInt8):= [[38,38,38],[61,61],[33,61],[60,61],[62,61],[60,60],[62,62],[38,38],[124,124],[43,43],[45,62]]
def dN:List UInt8:= [123,125,40,41,91,93,59,58,44,61,60,62,43,45,38,124,94,126,33,46,47]
def aL:List (List UInt8)→List UInt8→List UInt8
 | [],l=>if 0≤indexByte dN (l.headD 0) then l.take 1 else []
 |m::r,l=>if hasPrefix l m then m else aL r l
def aK (l:List UInt8):List UInt8:=aL aD l
theorem vY {s t:ByteArray} (h:s.data.toList=t.data.toList):s=t:=by
 obtain ⟨⟨a⟩⟩:=s
 obtain ⟨⟨b⟩⟩:=t
 simp only at h
 rw [h]
theorem uN {s:ByteArray} (h:0<s.size):s.extract 0 1=⟨#[s[0]]⟩:=by
 apply vY
 rw [gu]
 have:=gO s h
 rw [List.drop_zero] at this
 rw [this];rfl
theorem uO {s:ByteArray} (h:0<s.size):s.data.toList.headD 0=s[0]:=by
 have:=gO s h
 rw [List.drop_zero] at this
 rw [this];rfl
end
section
open Go.Lib
def aM:Bool→List UInt8
 |false=> [48,49,50,51,52,53,54,55,56,57]
 |true=> [48,49,50,51,52,53,54,55,56,57,97,98,99,100,101,102]
def dI:Bool→Nat
 |false=>10
 |true=>16
def EE (hex:Bool) (c:UInt8):Nat:=(indexByte (aM hex) c).toNat
theorem zC:∀ (l:List UInt8) (c:UInt8),c∈l→0≤indexByte l c∧indexByte l c<l.length
 | [],c,h=>by simp at h
 |b::l,c,h=>by
  unfold indexByte
  by_cases hb:b=c
  ·simp [hb]
  ·have hc:c∈l:=by
    rcases HU.1 h with h|h
    ·exact absurd h.symm hb
    ·exact h
   have ih:=zC l c hc
   have hb':(b==c)=false:=by simpa using hb
   have hn:¬indexByte l c= -1:=by omega
   simp only [hb',H2,if_false,beq_iff_eq,hn,HN]
   omega
theorem qw (hex:Bool):(aM hex).length=dI hex:=by cases hex<;>rfl
theorem DW {hex:Bool} {c:UInt8} (h:c∈aM hex):indexByte (aM hex) c=(EE hex c:Int)∧EE hex c<dI hex:=by
 have:=zC _ _ h
 rw [qw] at this
 unfold EE
 omega
abbrev da:Nat:=340282366920938463463374607431768211456
def Dv (hex:Bool) (x:Nat×Bool) (c:UInt8):Nat×Bool:=((x.1*dI hex+EE hex c) % da,x.2&&decide (x.1*dI hex+EE hex c<da))
def dW (hex:Bool) (r:List UInt8):Nat×Bool:=r.foldl (Dv hex) (0,true)
theorem vZ (hex:Bool) (r:List UInt8) {k:Nat} (h:k<r.length):dW hex (r.take (k+1))=Dv hex (dW hex (r.take k)) r[k]:=by
 unfold dW
 rw [H9 h,List.foldl_append]
 rfl
theorem uP (hex:Bool) (r:List UInt8):(dW hex r).1<da:=by
 unfold dW
 rcases List.eq_nil_or_concat r with rfl|⟨l,a,rfl⟩
 ·show 0<da
  decide
 ·rw [List.concat_eq_append,List.foldl_append]
  exact Nat.mod_lt _ (by decide)
def eK (l:List UInt8):Except Int Nat:=
 let hex:=hasPrefix l [48,120]
 let r:=if hex then toLowerA (l.drop 2) else l
 if r= [] then .error 4 else if r.all (fun c=>(aM hex).contains c) then (if (dW hex r).2 then .ok (dW hex r).1 else .error 5) else .error 4
theorem sZ {α:Type} (p:α→Bool):∀ l:List α,l.dropWhile p= []↔∀ x∈l,p x=true
 | []=>by simp
 |a::l=>by
  have ih:=sZ p l
  by_cases h:p a=true
  ·simp [List.dropWhile_cons,h,ih]
  ·simp [List.dropWhile_cons,h]
theorem pj (l cs:List UInt8):trimLeftS l cs= []↔l.all (fun c=>cs.contains c)=true:=by
 unfold trimLeftS
 rw [sZ,HT]
theorem nc (l cs:List UInt8):(trimRightS l cs).all (fun c=>cs.contains c)=true↔l.all (fun c=>cs.contains c)=true:=by
 unfold trimRightS
 rw [List.all_reverse]
 constructor
 ·intro h
  have h2:l.reverse.dropWhile (cs.contains ·)= []:=by
   rcases hd:l.reverse.dropWhile (cs.contains ·) with _|⟨a,r⟩
   ·rfl
   ·have h3:cs.contains a=true:=by
     rw [hd] at h
     simp only [List.all_cons,Hy] at h
     exact h.1
    have h4:=List.head_dropWhile_not (p:=(cs.contains ·)) (l:=l.reverse) (by rw [hd];simp)
    simp only [hd,List.head_cons] at h4
    rw [h3] at h4;cases h4
  rw [sZ] at h2
  rw [HT]
  intro x hx
  exact h2 x (by simpa using hx)
 ·intro h
  rw [HT] at h ⊢
  intro x hx
  exact h x (by have:=(List.dropWhile_suffix (cs.contains ·) (l:=l.reverse)).subset hx;simpa using this)
theorem we (l cs:List UInt8):trimS l cs= []↔l.all (fun c=>cs.contains c)=true:=by
 unfold trimS
 rw [pj,nc]
end
end Go.Proofs.YtijcdfdbkffiaaaGreatDoor

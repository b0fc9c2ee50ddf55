import Derived.Deep.WholeRow
import Derived.Laws.CopyOwn
import Derived.Test.YtbbdhknagofghaaGreatTcp06
import Derived.Test.YtbbdhknagofghaaGreatTcp03
set_option linter.all false
set_option maxHeartbeats 4000000
set_option maxRecDepth 100000
open Go.Proofs.Tryz
namespace Go.Proofs.YtbbdhknagofghaaGreat
open _root_.Nat renaming lt_of_lt_of_le→Bg, le_trans→Bj, le_refl→Bm, zero_le→Bo, le_of_eq→Br
open _root_.Go.Calls renaming regrown_of→Bh
open _root_.Go.RowKit.Below renaming refl→Bi
open _root_.List renaming getElem?_eq_getElem→Bk, all_eq_true→Bw, length_singleton→BG, length_nil→BV
open _root_.Go.Sort renaming grow→Bl
open _root_.Bool renaming true_and→Bt, false_and→Bu
open _root_.Int renaming toNat_natCast→BM, eq_ofNat_of_zero_le→BR
open _root_.Array renaming getElem?_eq_none→B8
open Go.RowKit
section
def eB (x:Int) (j:Nat):Bool:=decide (x / 2 ^ j % 2=1)
def jD (hi lo:Int) (k j:Nat):Value:=.bool (if j<64 then decide (j<k)&&eB lo j else decide (j<64+k)&&eB hi (j-64))
def cG (hi lo:Int) (k:Nat):Array Value:=((List.range 128).map (jD hi lo k)).toArray
theorem dp (hi lo:Int) (k j:Nat) (hj:j<128):(cG hi lo k)[j]? =some (jD hi lo k j):=by
 simp [cG,hj]
theorem cX (hi lo:Int) (k:Nat):(cG hi lo k).size=128:=by simp [cG]
theorem jE (hi lo:Int) (k:Nat):(cG hi lo k).all (·.oneCell')=true:=by
 simp [cG,jD,Value.oneCell',Bw]
theorem vn (hi lo:Int):cG hi lo 0=Tryz.zeroCells203:=by
 have h:cG hi lo 0=Array.replicate 128 (.bool false):=by
  apply Array.ext_getElem?
  intro j
  by_cases hj:j<128
  ·rw [dp _ _ _ _ hj]
   by_cases h64:j<64<;>simp [jD,hj,h64]
  ·simp [cG,hj]
 exact h.trans (Eq.symm (by rfl))
theorem vo (hi lo:Int) {k:Nat} (hk:k<64):((cG hi lo k).setIfInBounds k (.bool (eB lo k))).setIfInBounds (64+k) (.bool (eB hi k))=cG hi lo (k+1):=by
 apply Array.ext_getElem?
 intro j
 by_cases hj:j<128
 ·rw [Array.getElem?_setIfInBounds,Array.getElem?_setIfInBounds,dp _ _ _ _ hj,dp _ _ _ _ hj]
  simp only [Array.size_setIfInBounds,cX]
  by_cases h1:64+k=j
  ·subst h1
   simp [jD,hj,hk]
   omega
  ·by_cases h2:k=j
   ·subst h2
    simp [jD,h1,hk]
    omega
   ·simp only [if_neg h1,if_neg h2,jD]
    by_cases h64:j<64
    ·have:(decide (j<k))=decide (j<k+1):=by rw [decide_eq_decide];omega
     simp [h64,this]
    ·have:(decide (j<64+k))=decide (j<64+(k+1)):=by rw [decide_eq_decide];omega
     simp [h64,this]
 ·have h:∀ a:Array Value,a.size=128→a[j]? =none:=fun a ha=>B8 (by omega)
  rw [h _ (by simp [cX]),h _ (cX _ _ _)]
theorem fI (k:Nat):(0:Int)<2 ^ k:=Int.pow_pos (by decide)
theorem pG {x:Int} (h0:0≤x) (h1:x<18446744073709551616) (k:Nat):0≤x / 2 ^ k∧x / 2 ^ k<18446744073709551616:=
 ⟨Int.ediv_nonneg h0 (Int.le_of_lt (fI k)),Int.lt_of_le_of_lt (Int.ediv_le_self _ h0) h1⟩
theorem mL (x:Int) (k:Nat):x / 2 ^ (k+1)=x / 2 ^ k / 2:=by
 rw [Int.pow_succ,Int.ediv_ediv_of_nonneg (Int.le_of_lt (fI k))]
def xE (v:Value):Sem Value:=Instr.loadAt 203 v
theorem lV (v:Value):Instr.loadAt 203 v=xE v:=rfl
def pH (v u:Value):Sem Unit:=Instr.storeAt 203 v u
theorem jF (v u:Value):Instr.storeAt 203 v u=pH v u:=rfl
theorem mM:(prog.info? 203).map (·.size)=some 128:=by kernel_rfl
theorem oG {W:World} {g:Nat} {C:Array Value} {t:TypeId} {fr:Nat×Nat} (h:W.heap[g]? =some (.cells C t fr)) (hs:C.size=128):(xE (.pointer (some ⟨g,0,none⟩))).run prog W=.ok (.agg C) W:=by
 unfold xE
 simp only [Instr.loadAt,Instr.sureAddr,Sem.run_bind,Sem.run_pure,Result.andThen]
 exact run_loadVar_row W g t _ C fr _ h underlying203 rfl (by rw [hs];exact mM)
theorem gg {W:World} {g:Nat} {C C':Array Value} {t:TypeId} (h:W.heap[g]? =some (.cells C t (0,0))) (hs:C.size=128) (hs':C'.size=128) (h1:C'.all (·.oneCell')=true):(pH (.pointer (some ⟨g,0,none⟩)) (.agg C')).run prog W=.ok () (W.setRow g C'):=by
 unfold pH
 simp only [Instr.storeAt,Instr.sureAddr,Sem.run_bind,Sem.run_pure,Result.andThen]
 exact run_storeVar_row W g t _ C C' h (by rw [hs'];exact mM) (by omega) h1
theorem ko {W:World} {g:Nat} {C C':Array Value} {t:TypeId} {fr:Nat×Nat} (h:W.heap[g]? =some (.cells C t fr)):(W.setRow g C').heap[g]? =some (.cells C' t fr):=by
 simp [World.setRow,Array.getElem?_modify,h]
theorem mN {W:World} {g b:Nat} {C':Array Value} (h:b≠g):(W.setRow g C').heap[b]? =W.heap[b]? :=by
 simp only [World.setRow,Array.getElem?_modify]
 rw [if_neg (Ne.symm h)]
attribute [local go_sem ↓] lV jF
theorem iW (hi lo:Int) (w:World) (hh:ei hi) (hl:ei lo):Calls prog 215 #[.agg #[.int .u64 hi,.int .u64 lo]] w fun e w'=>e=.returned (.agg (cG hi lo 64))∧Below w.heap.size w w':=by
 obtain ⟨hh1,hh2⟩:=hh
 obtain ⟨hl1,hl2⟩:=hl
 go_enter func215,ntmps215
 go_wp2
 rw [←vn hi lo]
 go_loopw [4] (fun i wr=>∃ k:Nat,k≤64∧i=.int .i64 k∧wr=((w.alloc (.cells #[.int .u64 (hi / 2 ^ k),.int .u64 (lo / 2 ^ k)] 40)).alloc (.cells (cG hi lo 0) 203)).alloc (.cells (cG hi lo k) 203)) (fun i _=>64-(intOf i).toNat)
 case atStart=>exact ⟨0,Bo _,rfl,by simp⟩
 case round=>
  obtain ⟨k,hk,rfl,rfl⟩:=hrel
  have hs1:=cX hi lo k
  have hs0:=cX hi lo 0
  by_cases hlt:k<64
  ·have hltz:(k:Int)<64:=by omega
   have hsucc:=aa (vo hi lo hlt)
   obtain ⟨hx1,hx2⟩:=pG hh1 hh2 k
   obtain ⟨hy1,hy2⟩:=pG hl1 hl2 k
   have hxs:=mL hi k
   have hys:=mL lo k
   have hbx:eB hi k=decide (hi / 2 ^ k % 2=1):=rfl
   have hby:eB lo k=decide (lo / 2 ^ k % 2=1):=rfl
   rw [hbx,hby] at hsucc
   clear hbx hby
   generalize hi / 2 ^ k=x at*
   generalize lo / 2 ^ k=y at*
   have hc1:(cG hi lo k)[k]? =some (jD hi lo k k):=dp _ _ _ _ (by omega)
   have hc2:(cG hi lo k)[64+k]? =some (jD hi lo k (64+k)):=dp _ _ _ _ (by omega)
   replace hxs:=aa hxs
   replace hys:=aa hys
   go_wp2
   go_roundw
   case rel=>exact ⟨k+1,by omega,by go_num,by rw [hxs.out,hys.out,←hsucc.out];rfl⟩
   case measure=>simp [intOf];omega
  ·obtain rfl:k=64:=by omega
   generalize hi / 2 ^ 64=x
   generalize lo / 2 ^ 64=y
   obtain ⟨W,hW⟩:∃ W,((w.alloc (.cells #[.int .u64 x,.int .u64 y] 40)).alloc (.cells (cG hi lo 0) 203)).alloc (.cells (cG hi lo 64) 203)=W:=⟨_,rfl⟩
   have hb:Below w.heap.size w W:=by
    rw [←hW]
    exact (((Bi _ _).alloc (Bm _) _).alloc (by simp) _).alloc (by simp;omega) _
   have hg2:W.heap[w.heap.size+1+1]? =some (.cells (cG hi lo 64) 203 (0,0)):=by
    rw [←hW]
    have:=heap_alloc_last ((w.alloc (.cells #[.int .u64 x,.int .u64 y] 40)).alloc (.cells (cG hi lo 0) 203)) (.cells (cG hi lo 64) 203)
    simpa using this
   have hg1:W.heap[w.heap.size+1]? =some (.cells (cG hi lo 0) 203 (0,0)):=by
    rw [←hW]
    have:=heap_alloc_last (w.alloc (.cells #[.int .u64 x,.int .u64 y] 40)) (.cells (cG hi lo 0) 203)
    rw [Below.heap_alloc _ _ _ (by simp)]
    simpa using this
   have hld:=oG hg2 hs1
   have hst:=gg hg1 hs0 hs1 (jE hi lo 64)
   have hg3:=ko (C':=cG hi lo 64) hg1
   have hb2:Below w.heap.size w (W.setRow (w.heap.size+1) (cG hi lo 64)):=below_setRow hb (by omega) _
   generalize W.setRow (w.heap.size+1) (cG hi lo 64)=W2 at hst hg3 hb2
   have hlv:=run_loadVar_row (P:=prog) W2 (w.heap.size+1) _ 203 (cG hi lo 64) _ _ hg3 underlying203 rfl (by rw [hs1];exact mM)
   replace hb2:=aa hb2
   clear hb hg1 hg2 hg3 hs1 hs0
   go_wp2
   exact bodyPost_ret (v:=.agg (cG hi lo 64)) (by simp [results,results215,asAddr,Result.andThen,hlv]) rfl ⟨rfl,hb2.out⟩
end
section
attribute [local go_sem ↓] lV jF
theorem yY (hi lo:Int) {j:Nat} (hj:j<64):(cG hi lo 64)[j]? =some (.bool (eB lo j)):=by
 rw [dp _ _ _ _ (by omega)]
 simp [jD,hj]
theorem yZ (hi lo:Int) {j:Nat} (hj:j<64):(cG hi lo 64)[64+j]? =some (.bool (eB hi j)):=by
 rw [dp _ _ _ _ (by omega)]
 simp [jD,show ¬(64+j<64) by omega,show 64+j<128 by omega]
theorem qZ {x:Int} (h0:0≤x) (h1:x<18446744073709551616) (t:Nat):x / 2 ^ t=x / 2 ^ (t+1)*2+(if eB x t then 1 else 0)∧0≤x / 2 ^ (t+1)∧x / 2 ^ (t+1)<9223372036854775808:=by
 have h:=mL x t
 obtain ⟨h2,h3⟩:=pG h0 h1 t
 unfold eB
 generalize x / 2 ^ t=y at*
 rw [h]
 by_cases hb:y % 2=1
 ·simp only [hb,decide_true,if_true];omega
 ·simp only [hb,decide_false,Bool.false_eq_true,if_false];omega
theorem vp (hi lo:Int) (w:World) (hh:ei hi) (hl:ei lo):Calls prog 216 #[.agg (cG hi lo 64)] w fun e w'=>e=.returned (.agg #[.int .u64 hi,.int .u64 lo])∧Below w.heap.size w w':=by
 obtain ⟨hh1,hh2⟩:=hh
 obtain ⟨hl1,hl2⟩:=hl
 go_enter func216,ntmps216
 go_wp2
 go_loopw [4] (fun i wr=>∃ j:Nat,j≤64∧(∃ i':Int,i=.int .i64 i'∧i'=(j:Int)-1)∧wr=((w.alloc (.cells (cG hi lo 64) 203)).alloc (.cells #[.int .u64 0,.int .u64 0] 40)).alloc (.cells #[.int .u64 (hi / 2 ^ j),.int .u64 (lo / 2 ^ j)] 40)) (fun i _=>(intOf i+1).toNat)
 case atStart=>exact ⟨64,Bm _,⟨_,rfl,by decide⟩,by
  rw [show hi / 2 ^ 64=0 from Int.ediv_eq_zero_of_lt hh1 (by simpa using hh2),show lo / 2 ^ 64=0 from Int.ediv_eq_zero_of_lt hl1 (by simpa using hl2)]⟩
 case round=>
  obtain ⟨j,hj,⟨i',rfl,hi'⟩,rfl⟩:=hrel
  cases j with
  |succ t=>
   obtain rfl:i'=(t:Int):=by omega
   clear hi'
   have htz:(0:Int)≤(t:Int):=by omega
   have ht64:(t:Int)<64:=by omega
   obtain ⟨ex,hx1,hx2⟩:=qZ hh1 hh2 t
   obtain ⟨ey,hy1,hy2⟩:=qZ hl1 hl2 t
   have hc1:=yY hi lo (show t<64 by omega)
   have hc2:=yZ hi lo (show t<64 by omega)
   generalize eB lo t=b1 at*
   generalize eB hi t=b2 at*
   generalize hi / 2 ^ (t+1)=x at*
   generalize lo / 2 ^ (t+1)=y at*
   replace ex:=aa ex
   replace ey:=aa ey
   cases b1 with
   |false=>
    cases b2 with
    |false=>
     go_wp2
     go_roundw
     case rel=>exact ⟨t,by omega,⟨_,rfl,rfl⟩,by rw [ex.out,ey.out];simp⟩
     case measure=>simp [intOf]
    |true=>
     go_wp2
     go_roundw
     case rel=>exact ⟨t,by omega,⟨_,rfl,rfl⟩,by rw [ex.out,ey.out];simp⟩
     case measure=>simp [intOf]
   |true=>
    cases b2 with
    |false=>
     go_wp2
     go_roundw
     case rel=>exact ⟨t,by omega,⟨_,rfl,rfl⟩,by rw [ex.out,ey.out];simp⟩
     case measure=>simp [intOf]
    |true=>
     go_wp2
     go_roundw
     case rel=>exact ⟨t,by omega,⟨_,rfl,rfl⟩,by rw [ex.out,ey.out];simp⟩
     case measure=>simp [intOf]
  |zero=>
   obtain rfl:i'= -1:=by omega
   simp only [Int.pow_zero,Int.ediv_one]
   generalize cG hi lo 64=C
   clear hi' hj
   go_wp2
   exact bodyPost_ret (v:=.agg #[.int .u64 hi,.int .u64 lo]) (by simp [results,results216,go_sem]) rfl ⟨rfl,(((Bi _ _).alloc (Bm _) _).alloc (by simp) _).alloc (by simp;omega) _⟩
end
section
attribute [local go_sem ↓] lV jF
theorem mO (X j:Nat):eB (X:Int) j=X.testBit j:=by
 unfold eB
 rw [Nat.testBit_eq_decide_div_mod_eq,decide_eq_decide]
 have h:(X:Int) / 2 ^ j=((X / 2 ^ j:Nat):Int):=by simp
 rw [h]
 omega
theorem q9 {x:Int} (h0:0≤x) (n j:Nat):eB (x % 2 ^ n) j=(decide (j<n)&&eB x j):=by
 obtain ⟨X,rfl⟩:=BR h0
 have h:((X:Int) % 2 ^ n)=((X % 2 ^ n:Nat):Int):=by simp
 rw [h,mO,mO,Nat.testBit_mod_two_pow]
def kq (lo:Int) (n:Nat):Int:=lo % 2 ^ min n 64
def ku (hi:Int) (n:Nat):Int:=hi % 2 ^ (n-64)
def mP (hi lo:Int) (n k j:Nat):Value:=.bool ((if j<64 then eB lo j else eB hi (j-64))&&(decide (k≤j) ||decide (j<n)))
def gO (hi lo:Int) (n k:Nat):Array Value:=((List.range 128).map (mP hi lo n k)).toArray
theorem fJ (hi lo:Int) (n k j:Nat) (hj:j<128):(gO hi lo n k)[j]? =some (mP hi lo n k j):=by simp [gO,hj]
theorem dX (hi lo:Int) (n k:Nat):(gO hi lo n k).size=128:=by simp [gO]
theorem pI {a b:Array Value} (ha:a.size=128) (hb:b.size=128) (h:∀ j,j<128→a[j]? =b[j]?):a=b:=by
 apply Array.ext_getElem?
 intro j
 by_cases hj:j<128
 ·exact h j hj
 ·rw [B8 (by omega),B8 (by omega)]
theorem sT (hi lo:Int) (n:Nat):gO hi lo n 0=cG hi lo 64:=pI (dX _ _ _ _) (cX _ _ _) fun j hj=>by
 rw [fJ _ _ _ _ _ hj,dp _ _ _ _ hj]
 by_cases h:j<64<;>simp [mP,jD,h]
 omega
theorem sU (hi lo:Int) (n:Nat) {k:Nat} (hk:k<128):(gO hi lo n k).setIfInBounds k (.bool ((if k<64 then eB lo k else eB hi (k-64))&&decide (k<n)))=gO hi lo n (k+1):=
 pI (by simp [dX]) (dX _ _ _ _) fun j hj=>by
  rw [Array.getElem?_setIfInBounds,fJ _ _ _ _ _ hj,fJ _ _ _ _ _ hj]
  simp only [dX]
  by_cases h:k=j
  ·subst h
   simp [mP,hk,show ¬(k+1≤k) by omega]
  ·rw [if_neg h]
   have:decide (k≤j)=decide (k+1≤j):=by rw [decide_eq_decide];omega
   simp [mP,this]
theorem vq {hi lo:Int} (hh:0≤hi) (hl:0≤lo) (n:Nat):gO hi lo n 128=cG (ku hi n) (kq lo n) 64:=pI (dX _ _ _ _) (cX _ _ _) fun j hj=>by
 rw [fJ _ _ _ _ _ hj,dp _ _ _ _ hj]
 unfold mP jD ku kq
 rw [q9 hl,q9 hh]
 by_cases h:j<64
 ·have h1:decide (j<min n 64)=decide (j<n):=by rw [decide_eq_decide];omega
  simp [h,h1,show ¬(128≤j) by omega,Bool.and_comm]
 ·have h1:decide (j-64<n-64)=decide (j<n):=by rw [decide_eq_decide];omega
  simp [h,h1,show ¬(128≤j) by omega,show j<64+64 by omega,Bool.and_comm]
theorem uh {a:Int} (h:0≤a) (n:Nat):a % 2 ^ n≤a:=by
 have h1:=Int.emod_add_mul_ediv a (2 ^ n)
 have h2:=Int.mul_nonneg (Int.le_of_lt (fI n)) (Int.ediv_nonneg h (Int.le_of_lt (fI n)))
 omega
theorem zd {hi:Int} (hh:ei hi) (n:Nat):ei (ku hi n):=
 ⟨Int.emod_nonneg _ (Int.ne_of_gt (fI _)),Int.lt_of_le_of_lt (uh hh.1 _) hh.2⟩
theorem zg {lo:Int} (hl:ei lo) (n:Nat):ei (kq lo n):=
 ⟨Int.emod_nonneg _ (Int.ne_of_gt (fI _)),Int.lt_of_le_of_lt (uh hl.1 _) hl.2⟩
theorem vr (hi lo:Int) (n:Nat) (w:World) (hh:ei hi) (hl:ei lo) (hn:n≤128):Calls prog 183 #[.agg #[.int .u64 hi,.int .u64 lo],.int .i64 (n:Int)] w fun e w'=>e=.returned (.agg #[.int .u64 (ku hi n),.int .u64 (kq lo n)])∧Below w.heap.size w w':=by
 have hB:=aa (fun W=>iW hi lo W hh hl)
 have hN:=aa (fun W=>vp (ku hi n) (kq lo n) W (zd hh n) (zg hl n))
 have hend:=aa (vq hh.1 hl.1 n)
 clear hh hl
 obtain ⟨wa,hwa,hsa,hba,hca,-⟩:=al w #[.int .u64 hi,.int .u64 lo] 40
 have y0:wa.cell? ⟨w.heap.size,0,none⟩=some (.int .u64 hi):=hca 0
 have y1:wa.cell? ⟨w.heap.size,1,none⟩=some (.int .u64 lo):=hca 1
 obtain ⟨wb,hwb,hsb,hbb,hcb,-⟩:=al wa #[.int .u64 0,.int .u64 0] 40
 have hg1:wb.heap[w.heap.size+1]? =some (.cells #[.int .u64 0,.int .u64 0] 40 (0,0)):=by rw [←hwb,←hsa];exact heap_alloc_last wa _
 have y0':wb.cell? ⟨w.heap.size,0,none⟩=some (.int .u64 hi):=(bx hbb w.heap.size 0 (by omega)).trans y0
 have y1':wb.cell? ⟨w.heap.size,1,none⟩=some (.int .u64 lo):=(bx hbb w.heap.size 1 (by omega)).trans y1
 have hbw:=aa (hba.trans (hbb.mono (by omega)))
 have hszb:wb.heap.size=w.heap.size+2:=by omega
 replace hg1:=aa hg1
 clear hba hbb hca hcb
 go_enter func183,ntmps183
 go_wp2_with fail
 refine (hB.out _).mono ?_
 rintro e w1 ⟨rfl,hb1⟩
 have hst:(pH (.pointer (some ⟨w1.heap.size,0,none⟩)) (.agg (cG hi lo 64))).run prog (w1.alloc (.cells Tryz.zeroCells203 203))=.ok () (w1.alloc (.cells (gO hi lo n 0) 203)):=by
  rw [gg (heap_alloc_last w1 _) (by rfl) (cX _ _ _) (jE _ _ _),World.setRow_alloc_new,sT]
 go_wp2
 have hB1:=aa (hbw.out.trans (hb1.mono (by omega)))
 have hg1':w1.heap[w.heap.size+1]? =some (.cells #[.int .u64 0,.int .u64 0] 40 (0,0)):=(hb1.block _ (by omega)).trans hg1.out
 have hzz:wb.heap.size≤w1.heap.size:=hb1.size
 have hsz1:w.heap.size+1<w1.heap.size:=by omega
 replace hg1':=aa hg1'
 clear hst hb1 hB hg1 hsb hsa hwa hwb y0 y1 y0' y1' hbw
 go_loopw [6] (fun i wr=>∃ k:Nat,k≤128∧i=.int .i64 k∧wr=w1.alloc (.cells (gO hi lo n k) 203)) (fun i _=>128-(intOf i).toNat)
 case atStart=>exact ⟨0,Bo _,rfl,rfl⟩
 case round=>
  obtain ⟨k,hk,rfl,rfl⟩:=hrel
  have hs1:=dX hi lo n k
  by_cases hlt:k<128
  focus
   have hltz:(k:Int)<128:=by omega
   have hsucc:=sU hi lo n hlt
   have hc:(gO hi lo n k)[k]? =some (.bool (if k<64 then eB lo k else eB hi (k-64))):=by
    rw [fJ _ _ _ _ _ hlt];simp [mP]
   generalize (if k<64 then eB lo k else eB hi (k-64))=b at hsucc hc
   clear hs1
   cases b
   rw [Bu] at hsucc
   rotate_right
   focus
    rw [Bt] at hsucc
    by_cases hkn:k<n
    have hknz:(k:Int)<(n:Int):=by omega
    rw [decide_eq_true hkn] at hsucc
    rotate_right
    have hknz:¬(k:Int)<(n:Int):=by omega
    rw [decide_eq_false hkn] at hsucc
  rotate_right
  focus
   obtain rfl:k=128:=by omega
   rw [hend.out]
   rw [hend.out] at hs1
   have hlast:=heap_alloc_last w1 (.cells (cG (ku hi n) (kq lo n) 64) 203)
   have hbl:Below w1.heap.size w1 (w1.alloc (.cells (cG (ku hi n) (kq lo n) 64) 203)):=(Bi _ _).alloc (Bm _) _
   obtain ⟨W,hW⟩:∃ W,w1.alloc (.cells (cG (ku hi n) (kq lo n) 64) 203)=W:=⟨_,rfl⟩
   rw [hW] at hlast hbl
   have hld:=oG hlast hs1
   have hzW:w1.heap.size≤W.heap.size:=hbl.size
   have hBW:=aa (hB1.out.trans (hbl.mono (by omega)))
   have hgW:=aa ((hbl.block _ (by omega)).trans hg1'.out)
   clear hs1 hlast hbl
   go_wp2_with fail
   refine (hN.out _).mono ?_
   rintro e w2 ⟨rfl,hb2⟩
   have hg2:w2.heap[w.heap.size+1]? =some (.cells #[.int .u64 0,.int .u64 0] 40 (0,0)):=(hb2.block _ (by omega)).trans hgW.out
   have hB2:=aa (hBW.out.trans (hb2.mono (by omega)))
   have k0:w2.cell? ⟨w.heap.size+1,0,none⟩=some (.int .u64 0):=by simp [World.cell?,hg2]
   have k1:w2.cell? ⟨w.heap.size+1,1,none⟩=some (.int .u64 0):=by simp [World.cell?,hg2]
   have f0:w2.frozen? ⟨w.heap.size+1,0,none⟩=false:=by simp [World.frozen?,hg2]
   have f1:w2.frozen? ⟨w.heap.size+1,1,none⟩=false:=by simp [World.frozen?,hg2]
   clear hg2 hld
   go_wp2
   exact bodyPost_ret (v:=.agg #[.int .u64 (ku hi n),.int .u64 (kq lo n)]) (by simp [results,results183,go_sem,k0,k1]) rfl ⟨rfl,(hB2.out.setCell (by show w.heap.size≤w.heap.size+1;omega) _).setCell (by show w.heap.size≤w.heap.size+1;omega) _⟩
  all_goals
   replace hsucc:=aa hsucc
   go_wp2
   go_roundw
   case rel=>exact ⟨k+1,by omega,by go_num,by rw [hsucc.out]⟩
   case measure=>simp [intOf];omega
end
theorem ui (l:Lt) (n:Nat) (hl:em l) (h2:n≤128):ku l.2.1 n=dV l.2.1 (fk n)∧kq l.2.2 n=dV l.2.2 (fm n):=by
 obtain ⟨-,⟨a0,a1⟩,b0,b1⟩:=hl
 unfold ku kq fk fm
 by_cases h:n≤64
 ·rw [if_pos h,if_pos h,eA _ n b0 b1 h]
  have e0:dV l.2.1 0=0:=by have:=eA l.2.1 0 a0 a1 (by omega);simpa using this
  rw [e0,show n-64=0 by omega,show min n 64=n by omega]
  simp
 ·rw [if_neg h,if_neg h,eA _ (n-64) a0 a1 (by omega)]
  have e1:dV l.2.2 18446744073709551615=l.2.2:=by
   have:=eA l.2.2 64 b0 b1 (by omega)
   rw [Int.emod_eq_of_lt b0 (by simpa using b1)] at this
   simpa using this
  rw [e1,show min n 64=64 by omega]
  exact ⟨rfl,Int.emod_eq_of_lt b0 (by simpa using b1)⟩
theorem vs (l:Lt) (n:Nat) (hl:em l) (h1:1≤n) (h2:n≤128):(ku l.2.1 n==l.2.1&&kq l.2.2 n==l.2.2)=dN (n:Int) l:=by
 rw [←pk l n hl h1 h2,(ui l n hl h2).1,(ui l n hl h2).2]
theorem iX (l:Lt) (n:Nat) (w:World) (hl:em l) (h1:1≤n) (h2:n≤128):Calls prog 118 #[.agg #[.int .u64 l.2.1,.int .u64 l.2.2],.int .i64 (n:Int)] w fun e w'=>e=.returned (.bool (dN (n:Int) l))∧Below w.heap.size w w':=by
 rw [←vs l n hl h1 h2]
 obtain ⟨wd,hi,lo⟩:=l
 simp only
 have hC:=fun W=>vr hi lo n W hl.2.1 hl.2.2 h2
 generalize ku hi n=a at hC ⊢
 generalize kq lo n=b at hC ⊢
 clear h1 h2 hl
 obtain ⟨wa,hwa,hsa,hba,hca,-⟩:=al w #[.int .u64 hi,.int .u64 lo] 40
 have y0:wa.cell? ⟨w.heap.size,0,none⟩=some (.int .u64 hi):=hca 0
 have y1:wa.cell? ⟨w.heap.size,1,none⟩=some (.int .u64 lo):=hca 1
 have hX:∀ d os,Hid (Calls prog 183 #[.agg #[.int .u64 hi,.int .u64 lo],.int .i64 (n:Int)] (Bl (redrawn wa d) os) _):=fun d os=>aa (hC _)
 have hg:=ax (show Below wa.heap.size wa wa from Bi _ _) (Bm _)
 have hlt:w.heap.size<wa.heap.size:=by omega
 replace hba:=aa hba
 clear hca hC hsa
 by_cases e1:a=hi
 ·subst e1
  by_cases e2:b=lo
  ·subst e2
   go_enter func118,ntmps118
   go_wp2_with fail
   refine cD ?_
   repeat (any_goals (first|go_big_quiet_step ((go_at_call 183;with_reducible exact Bh (hX _ _).out))|quiet_step ((go_at_call 183;with_reducible exact Bh (hX _ _).out))))
   refine wpQuiet_nil ?_
   intro w1 hw1
   replace hw1:=ac hw1
   go_wp2
   go_ret
   exact ⟨ah (by simp),hba.out.trans (hw1.mono (Nat.le_of_lt hlt))⟩
  ·have e2':(b==lo)=false:=beq_eq_false_iff_ne.2 e2
   go_enter func118,ntmps118
   go_wp2_with fail
   refine cD ?_
   repeat (any_goals (first|go_big_quiet_step ((go_at_call 183;with_reducible exact Bh (hX _ _).out))|quiet_step ((go_at_call 183;with_reducible exact Bh (hX _ _).out))))
   refine wpQuiet_nil ?_
   intro w1 hw1
   replace hw1:=ac hw1
   go_wp2
   go_ret
   exact ⟨ah (by simp [e2']),hba.out.trans (hw1.mono (Nat.le_of_lt hlt))⟩
 ·have e1':(a==hi)=false:=beq_eq_false_iff_ne.2 e1
  go_enter func118,ntmps118
  go_wp2_with fail
  refine cD ?_
  repeat (any_goals (first|go_big_quiet_step ((go_at_call 183;with_reducible exact Bh (hX _ _).out))|quiet_step ((go_at_call 183;with_reducible exact Bh (hX _ _).out))))
  refine wpQuiet_nil ?_
  intro w1 hw1
  replace hw1:=ac hw1
  go_wp2
  go_ret
  exact ⟨ah (by simp [e1']),hba.out.trans (hw1.mono (Nat.le_of_lt hlt))⟩
def dI (l:Lt) (w:Int):Rs Unit:=if l.1=0∨l.1=w then (if l.1=0 then (if dN w l then .ok () else .error 5) else .ok ()) else .error 10
def dE (p:Pg) (act:Int) (e:Ex) (w:Int):Rs Unit:=match bI p act e with
 | .error n=>.error n
 | .ok t=>if t.truth then .error 9 else if t.free then (if bB w e then .ok () else .error 5) else if t.w=w then .ok () else .error 10
def kw (l:List Fd) (i:Int):Int:=(l[i.toNat]?).elim 0 Prod.snd
def xF (p:Pg) (head name:ByteArray):Int:=if head=aB then kw p.metas (ct p name) else kw ((p.headers[(ap p head).toNat]?).elim [] Hd.fields) (aJ p (ap p head) name)
def lj (p:Pg) (act:Int):St→Rs Unit
 | .mk kind head name e _ _=>
  if kind=1 then dE p act e (xF p head name)
  else if kind=2 then (match bI p act e with
   | .error n=>.error n
   | .ok t=>if t.truth then .ok () else .error 9)
  else if kind=5 then (match bI p act e with
   | .error n=>.error n
   | .ok t=>if t.truth then .error 9 else if t.free then (if bB 9 e then .ok () else .error 5) else .ok ())
  else .ok ()
theorem dY (t:Ty) (w:World):Calls prog 112 #[.agg #[.int .i64 t.w,.bool t.truth,.bool t.free]] w fun e w'=>e=.returned (.int .i64 (zQ t))∧Below w.heap.size w w':=by
 obtain ⟨wa,hwa,hsa,hba,hca,-⟩:=al w #[.int .i64 t.w,.bool t.truth,.bool t.free] 75
 obtain ⟨y0,y1,y2⟩:=bF hca
 have hl1:w.heap.size<wa.heap.size:=by omega
 have hv:=aa (show zQ t=if t.truth then 9 else if t.free then 10 else 0 from rfl)
 obtain ⟨n,tr,fr⟩:=t
 clear hca
 replace hsa:=aa hsa
 simp only at*
 go_enter func112,ntmps112
 cases tr
 focus cases fr
 all_goals
  go_wp2
  go_ret
  exact ⟨ag hv.out.symm,hba⟩
theorem gP (l:List Fd) (A:Option Addr) (cap:Nat) (i:Int) (w:World) {B:Nat} (hB:B≤w.heap.size) (hS:Sl 2 sq w B A l) (hi:i<(l.length:Int)):
  Calls prog 213 #[.slice A l.length cap,.int .i64 i] w fun e w'=>e=.returned (.tuple #[.agg (gw (db (cg l i)).1),.int .i64 (db (cg l i)).2])∧Below w.heap.size w w':=by
 have hl:=hS.len
 obtain ⟨wb,hwb,hsb,hbb,hcb,hfb⟩:=al w #[.int .i64 0,.bool false,.bool false] 75
 obtain ⟨z0,z1,z2⟩:=bF hcb
 have hS2:=hS.below bA (hbb.mono hB)
 have hw:=aa hbb
 have hl1:w.heap.size<wb.heap.size:=by omega
 clear hcb hbb hS
 replace hsb:=aa hsb
 by_cases h0:i<0
 ·have hv:=aa (show cg l i=.error 7 from by unfold cg;rw [if_pos h0])
  go_enter func213,ntmps213
  go_wp2
  refine bodyPost_ret (v:=.tuple #[.agg #[.int .i64 0,.bool false,.bool false],.int .i64 7]) (by simp [results,results213,go_sem,z0,z1,z2]) rfl ⟨by rw [hv.out];rfl,?_⟩
  exact ad hw.out (by omega) _ _ _
 ·obtain ⟨k,rfl⟩:=BR (show 0≤i by omega)
  have hlt:k<l.length:=by omega
  obtain ⟨b,o,ecs,rfl,hb,hel,hcell,rfl,-,-⟩:=hS2.2 k _ (Bk hlt)
  have x0:wb.cell? ⟨b,o+k*2,none⟩=some (.string l[k].1):=by simpa using hcell 0 _ rfl
  have x1:wb.cell? ⟨b,o+k*2+1,none⟩=some (.int .i64 l[k].2):=hcell 1 _ rfl
  have hv:=aa (show cg l (k:Int)=.ok ⟨l[k].2,false,false⟩ from by
   unfold cg
   rw [if_neg (by omega),BM,Bk hlt];rfl)
  generalize l[k].2=n at x1 hv
  have h0q:decide ((k:Int)<0)=false:=decide_eq_false (by omega)
  clear hcell hS2 h0
  go_enter func213,ntmps213
  go_wp2
  refine bodyPost_ret (v:=.tuple #[.agg #[.int .i64 n,.bool false,.bool false],.int .i64 0]) (by simp [results,results213,go_sem,z0,z1,z2]) rfl ⟨by rw [hv.out];rfl,?_⟩
  exact ad hw.out (by omega) _ _ _
theorem eS {p:Pg} {act:Int} (hm:dz p=true) (n:Nat) (h1:1≤n) (h2:n≤128) (e:Ex):aT e=true→(∃ t,bI p act e=.ok t∧t.free=true)→∀ (cs:List Value) (w:World) (B:Nat),B≤w.heap.size→dL w B cs e→
  Calls prog 117 #[.agg cs.toArray,.int .i64 (n:Int)] w fun r w'=>r=.returned (.bool (bB n e))∧Below w.heap.size w w':=by
 induction e using Ex.ind with
 |h op lit head name hi lo args ih=>
  intro he ⟨t,ht,hf⟩ cs w B hB h
  have hform:=uI hm he ht hf
  obtain ⟨A,cap,rfl,-,hlit,-,-,-,-,hs⟩:=RE.inv h
  have hl:=hs.len
  clear h
  show Calls _ _ #[.agg #[.int .u8 op,.int .i64 lit.1,.int .u64 lit.2.1,.int .u64 lit.2.2,.string head,.string name,.int .i64 hi,.int .i64 lo,.slice A args.length cap],_] _ _
  obtain ⟨wb,hwb,hsb,hbb,hcb,-⟩:=al w (aO op lit head name hi lo A args.length cap) 45
  obtain ⟨y0,y1,y2,y3,y4,y5,y6,y7,y8⟩:=bU hcb
  have hS:=aa (hs.below ai (hbb.mono hB))
  have hw:=aa hbb
  have hl1:w.heap.size<wb.heap.size:=by omega
  have hBw:B≤wb.heap.size:=by omega
  clear hcb hs hbb
  replace hsb:=aa hsb
  rcases hform with ⟨rfl,rfl⟩|⟨ho,a,rfl,ha,hta⟩
  ·have hF:=aa (iX lit n wb hlit h1 h2)
   have hv:=aa (show bB (n:Int) (.mk 1 lit head name hi lo [])=dN n lit from by simp only [bB,if_true])
   clear ih ht hf he
   simp only [BV] at*
   go_enter func117,ntmps117
   go_wp2_with (go_at_call 118;refine hF.out.mono ?_;rintro e w1 ⟨rfl,hw1⟩)
   go_ret
   exact ⟨ah hv.out.symm,hw.out.trans (hw1.mono (by omega))⟩
  ·have hv:=aa (show bB (n:Int) (.mk op lit head name hi lo [a])=bB n a from by simp only [bB,if_neg ho,qp,Bool.and_true])
   have hoq:(op==1)=false:=beq_eq_false_iff_ne.2 ho
   obtain ⟨b,o,ecs,hA,hb,hel,hcell,hr⟩:=hS.out.2 0 a rfl
   subst hA
   have hX:=aa (ih a (by simp) ha ⟨t,hta,hf⟩ ecs wb B hBw hr)
   clear ih ht hf he hta ha
   generalize bB (n:Int) a=r at hX hv
   obtain ⟨op',lit',head',name',hi',lo',args'⟩:=a
   obtain ⟨A',cap',rfl,-,-,-,-,-,-,hs'⟩:=RE.inv hr
   have hl':=hs'.len
   obtain ⟨x0,x1,x2,x3,x4,x5,x6,x7,x8⟩:=cl hcell
   simp only [Nat.zero_mul,Nat.add_zero,BG] at*
   replace hX:Hid (Calls prog 117 #[.agg (aO op' lit' head' name' hi' lo' A' args'.length cap'),.int .i64 (n:Int)] wb fun z w'=>z=.returned (.bool r)∧Below wb.heap.size wb w'):=hX
   clear hcell hr hs' hel
   go_enter func117,ntmps117
   go_wp2_with (go_at_call 117;refine hX.out.mono ?_;rintro e w1 ⟨rfl,hw1⟩)
   go_ret
   exact ⟨ah hv.out.symm,hw.out.trans (hw1.mono (by omega))⟩
theorem ky (l:Lt) (n:Nat) (h1:1≤n) (h2:n≤128) (hl:em l) (w:World):
  Calls prog 45 #[.agg #[.int .i64 l.1,.int .u64 l.2.1,.int .u64 l.2.2],.int .i64 (n:Int)] w fun e w'=>e=.returned (.int .i64 (bS (dI l n)))∧Below w.heap.size w w':=by
 obtain ⟨wa,hwa,hsa,hba,hca,-⟩:=al w #[.int .i64 l.1,.int .u64 l.2.1,.int .u64 l.2.2] 42
 obtain ⟨y0,y1,y2⟩:=bF hca
 have hl1:w.heap.size<wa.heap.size:=by omega
 have hF:=aa (iX l n wa hl h1 h2)
 have hv:=aa (show bS (dI l n)=if l.1=0∨l.1=n then (if l.1=0 then (if dN n l then 0 else 5) else 0) else 10 from by simp only [dI,apply_ite bS];rfl)
 generalize bS (dI l n)=r at hv ⊢
 generalize dN (n:Int) l=fb at hF hv
 obtain ⟨lw,lh,ll⟩:=l
 clear hca hl
 replace hsa:=aa hsa
 simp only at*
 by_cases h0:lw=0
 focus
  subst h0
  cases fb
  have hv1:=aa (show r=5 from by rw [hv.out];simp)
  rotate_right
  have hv1:=aa (show r=0 from by rw [hv.out];simp)
 rotate_right
 focus
  have h0a:(lw !=0)=true:=bne_iff_ne.2 h0
  have h0b:(lw==0)=false:=beq_eq_false_iff_ne.2 h0
  clear hF
  by_cases hn:lw=(n:Int)
  have hna:(lw !=(n:Int))=false:=by simp [hn]
  have hv1:=aa (show r=0 from by rw [hv.out,if_pos (.inr hn),if_neg h0])
  clear hv
  replace hn:=aa hn
  rotate_right
  have hna:(lw !=(n:Int))=true:=bne_iff_ne.2 hn
  have hv1:=aa (show r=10 from by rw [hv.out,if_neg (by omega)])
  clear hv
  all_goals
   go_enter func45,ntmps45
   go_wp2
   go_ret
   exact ⟨ag hv1.out.symm,hba⟩
 all_goals
  clear hv
  go_enter func45,ntmps45
  go_wp2_with (go_at_call 118;refine hF.out.mono ?_;rintro e w1 ⟨rfl,hw1⟩)
  go_ret
  exact ⟨ag hv1.out.symm,hba.trans (hw1.mono (by omega))⟩
theorem rc (lit:Lt) (head name:ByteArray) (hi lo:Int) (A:Option Addr) (n cap:Nat) (tw:Int) (tr tf:Bool) (w:World) (r:Rs Ty) (hv:Hid (r=if tr then .ok ⟨tw,tr,tf⟩ else .error 9)):
  Calls prog 180 #[.agg (aO 9 lit head name hi lo A n cap),.agg #[.int .i64 tw,.bool tr,.bool tf]] w fun e w'=>e=.returned (.tuple #[.agg (gw (db r).1),.int .i64 (db r).2])∧Below w.heap.size w w':=by
 unfold aO
 obtain ⟨wu,hwu,hsu,hbu,hcu,hfu⟩:=al w (aO 9 lit head name hi lo A n cap) 45
 obtain ⟨wv,hwv,hsv,hbv,hcv,hfv⟩:=al wu #[.int .i64 tw,.bool tr,.bool tf] 75
 obtain ⟨wz,hwz,hsz,hbz,hcz,hfz⟩:=al wv #[.int .i64 0,.bool false,.bool false] 75
 obtain ⟨wn,hwn,hsn,hbn,hcn,hfn⟩:=al wz #[.int .i64 0,.bool false,.bool false] 75
 have hEn:Below wn.heap.size wn wn:=Bi _ _
 have hEz:Below wz.heap.size wz wn:=hbn.trans (hEn.mono (by omega))
 have hEv:Below wv.heap.size wv wn:=hbz.trans (hEz.mono (by omega))
 have hEu:Below wu.heap.size wu wn:=hbv.trans (hEv.mono (by omega))
 have hw:=aa (hbu.trans (hEu.mono (by omega)))
 have cu:=fun i=>(bx hEu w.heap.size i (by omega)).trans (hcu i)
 have cv:=fun i=>(bx hEv wu.heap.size i (by omega)).trans (hcv i)
 have cz:=fun i=>(bx hEz wv.heap.size i (by omega)).trans (hcz i)
 have hqz:=fun i=>(ss hEz wv.heap.size i (by omega)).trans (hfz i)
 have cn:=fun i=>(bx hEn wz.heap.size i (by omega)).trans (hcn i)
 have hqn:=fun i=>(ss hEn wz.heap.size i (by omega)).trans (hfn i)
 simp only [hsu] at cv
 simp only [hsv,hsu] at cz hqz
 simp only [hsz,hsv,hsu] at cn hqn
 obtain ⟨u0,u1,u2,u3,u4,u5,u6,u7,u8⟩:=bU cu
 obtain ⟨v0,v1,v2⟩:=bF cv
 obtain ⟨z0,z1,z2⟩:=bF cz
 obtain ⟨n0,n1,n2⟩:=bF cn
 have hl1:w.heap.size<wn.heap.size:=by omega
 have hl2:w.heap.size+1<wn.heap.size:=by omega
 have hl3:w.heap.size+1+1<wn.heap.size:=by omega
 have hl4:w.heap.size+1+1+1<wn.heap.size:=by omega
 clear cu hcu hbu hfu cv hcv hbv hfv cz hcz hbz hfz cn hcn hbn hfn hEu hEv hEz hEn
 replace hsn:=aa hsn
 cases tr with
 |true=>
  go_enter func180,ntmps180
  go_wp2
  refine bodyPost_ret (v:=.tuple #[.agg #[.int .i64 tw,.bool true,.bool tf],.int .i64 0]) (by simp [results,results180,go_sem,z0,z1,z2]) rfl ⟨by rw [hv.out];rfl,?_⟩
  exact ad (ad (hw.out) (by omega) _ _ _) (by omega) _ _ _
 |false=>
  go_enter func180,ntmps180
  go_wp2
  refine bodyPost_ret (v:=.tuple #[.agg #[.int .i64 0,.bool false,.bool false],.int .i64 9]) (by simp [results,results180,go_sem,z0,z1,z2]) rfl ⟨by rw [hv.out];rfl,?_⟩
  exact ad (ad (hw.out) (by omega) _ _ _) (by omega) _ _ _
theorem pJ (lit:Lt) (head name:ByteArray) (hi lo:Int) (A:Option Addr) (n cap:Nat) (tw:Int) (tr tf:Bool) (w:World) (hop:0≤lo∧lo≤hi∧hi<128) (r:Rs Ty) (hv:Hid (r=if tr then .error 9 else if tf then .error 10 else if hi<tw then .ok ⟨hi-lo+1,false,false⟩ else .error 5)):
  Calls prog 180 #[.agg (aO 10 lit head name hi lo A n cap),.agg #[.int .i64 tw,.bool tr,.bool tf]] w fun e w'=>e=.returned (.tuple #[.agg (gw (db r).1),.int .i64 (db r).2])∧Below w.heap.size w w':=by
 unfold aO
 obtain ⟨g1,g2,g3⟩:=hop
 have hb0:=fun (W:World)=>dY ⟨tw,tr,tf⟩ W
 obtain ⟨wu,hwu,hsu,hbu,hcu,hfu⟩:=al w (aO 10 lit head name hi lo A n cap) 45
 obtain ⟨wv,hwv,hsv,hbv,hcv,hfv⟩:=al wu #[.int .i64 tw,.bool tr,.bool tf] 75
 obtain ⟨wz,hwz,hsz,hbz,hcz,hfz⟩:=al wv #[.int .i64 0,.bool false,.bool false] 75
 obtain ⟨wn,hwn,hsn,hbn,hcn,hfn⟩:=al wz #[.int .i64 0,.bool false,.bool false] 75
 have hEn:Below wn.heap.size wn wn:=Bi _ _
 have hEz:Below wz.heap.size wz wn:=hbn.trans (hEn.mono (by omega))
 have hEv:Below wv.heap.size wv wn:=hbz.trans (hEz.mono (by omega))
 have hEu:Below wu.heap.size wu wn:=hbv.trans (hEv.mono (by omega))
 have hw:=aa (hbu.trans (hEu.mono (by omega)))
 have cu:=fun i=>(bx hEu w.heap.size i (by omega)).trans (hcu i)
 have cv:=fun i=>(bx hEv wu.heap.size i (by omega)).trans (hcv i)
 have cz:=fun i=>(bx hEz wv.heap.size i (by omega)).trans (hcz i)
 have hqz:=fun i=>(ss hEz wv.heap.size i (by omega)).trans (hfz i)
 have cn:=fun i=>(bx hEn wz.heap.size i (by omega)).trans (hcn i)
 have hqn:=fun i=>(ss hEn wz.heap.size i (by omega)).trans (hfn i)
 simp only [hsu] at cv
 simp only [hsv,hsu] at cz hqz
 simp only [hsz,hsv,hsu] at cn hqn
 obtain ⟨u0,u1,u2,u3,u4,u5,u6,u7,u8⟩:=bU cu
 obtain ⟨v0,v1,v2⟩:=bF cv
 obtain ⟨z0,z1,z2⟩:=bF cz
 obtain ⟨n0,n1,n2⟩:=bF cn
 have hl1:w.heap.size<wn.heap.size:=by omega
 have hl2:w.heap.size+1<wn.heap.size:=by omega
 have hl3:w.heap.size+1+1<wn.heap.size:=by omega
 have hl4:w.heap.size+1+1+1<wn.heap.size:=by omega
 clear cu hcu hbu hfu cv hcv hbv hfv cz hcz hbz hfz cn hcn hbn hfn hEu hEv hEz hEn
 replace hsn:=aa hsn
 cases tr with
 |true=>
  have hb1:=aa (show ∀ W,Calls prog _ _ W fun e w'=>e=.returned (.int .i64 9)∧Below W.heap.size W w' from hb0)
  clear hb0
  go_enter func180,ntmps180
  go_wp2_with (go_at_call 112;refine (hb1.out _).mono ?_;rintro e w1 ⟨rfl,hb1⟩;have kb1:=ab hb1;have q2:=Bg hl2 (Bj (Br (by simp)) hb1.size);have q3:=Bg hl3 (Bj (Br (by simp)) hb1.size);have q4:=Bg hl4 (Bj (Br (by simp)) hb1.size))
  refine bodyPost_ret (v:=.tuple #[.agg #[.int .i64 0,.bool false,.bool false],.int .i64 9]) (by simp [results,results180,go_sem,kb1,z0,z1,z2,hl3,hl4]) rfl ⟨by rw [hv.out];rfl,?_⟩
  exact ad ((ad hw.out (by omega) _ _ _).trans (hb1.mono (by simp;omega))) (by omega) _ _ _
 |false=>
  cases tf with
  |true=>
   have hb1:=aa (show ∀ W,Calls prog _ _ W fun e w'=>e=.returned (.int .i64 10)∧Below W.heap.size W w' from hb0)
   clear hb0
   go_enter func180,ntmps180
   go_wp2_with (go_at_call 112;refine (hb1.out _).mono ?_;rintro e w1 ⟨rfl,hb1⟩;have kb1:=ab hb1;have q2:=Bg hl2 (Bj (Br (by simp)) hb1.size);have q3:=Bg hl3 (Bj (Br (by simp)) hb1.size);have q4:=Bg hl4 (Bj (Br (by simp)) hb1.size))
   refine bodyPost_ret (v:=.tuple #[.agg #[.int .i64 0,.bool false,.bool false],.int .i64 10]) (by simp [results,results180,go_sem,kb1,z0,z1,z2,hl3,hl4]) rfl ⟨by rw [hv.out];rfl,?_⟩
   exact ad ((ad hw.out (by omega) _ _ _).trans (hb1.mono (by simp;omega))) (by omega) _ _ _
  |false=>
   by_cases hlt:hi<tw
   ·have hlq:decide (tw≤hi)=false:=decide_eq_false (by omega)
    have hb1:=aa (show ∀ W,Calls prog _ _ W fun e w'=>e=.returned (.int .i64 0)∧Below W.heap.size W w' from hb0)
    clear hb0
    go_enter func180,ntmps180
    go_wp2_with (go_at_call 112;refine (hb1.out _).mono ?_;rintro e w1 ⟨rfl,hb1⟩;have kb1:=ab hb1;have q2:=Bg hl2 (Bj (Br (by simp)) hb1.size);have q3:=Bg hl3 (Bj (Br (by simp)) hb1.size);have q4:=Bg hl4 (Bj (Br (by simp)) hb1.size))
    refine bodyPost_ret (v:=.tuple #[.agg #[.int .i64 (1+hi-lo),.bool false,.bool false],.int .i64 0]) (by simp [results,results180,go_sem,kb1,z0,z1,z2,hl3,hl4]) rfl ⟨by rw [hv.out];simp [db,gw,hlt];omega,?_⟩
    exact ad ((ad hw.out (by omega) _ _ _).trans (hb1.mono (by simp;omega))) (by omega) _ _ _
   ·have hle:tw≤hi:=by omega
    have hb1:=aa (show ∀ W,Calls prog _ _ W fun e w'=>e=.returned (.int .i64 0)∧Below W.heap.size W w' from hb0)
    clear hb0
    go_enter func180,ntmps180
    go_wp2_with (go_at_call 112;refine (hb1.out _).mono ?_;rintro e w1 ⟨rfl,hb1⟩;have kb1:=ab hb1;have q2:=Bg hl2 (Bj (Br (by simp)) hb1.size);have q3:=Bg hl3 (Bj (Br (by simp)) hb1.size);have q4:=Bg hl4 (Bj (Br (by simp)) hb1.size))
    refine bodyPost_ret (v:=.tuple #[.agg #[.int .i64 0,.bool false,.bool false],.int .i64 5]) (by simp [results,results180,go_sem,kb1,z0,z1,z2,hl3,hl4]) rfl ⟨by rw [hv.out];simp [db,gw,show ¬hi<tw from by omega],?_⟩
    exact ad ((ad hw.out (by omega) _ _ _).trans (hb1.mono (by simp;omega))) (by omega) _ _ _
theorem rd (op:Int) (h9:¬op=9) (h10:¬op=10) (lit:Lt) (head name:ByteArray) (hi lo:Int) (A:Option Addr) (n cap:Nat) (tw:Int) (tr tf:Bool) (w:World) (r:Rs Ty) (hv:Hid (r=if tr then .error 9 else .ok ⟨tw,tr,tf⟩)):
  Calls prog 180 #[.agg (aO op lit head name hi lo A n cap),.agg #[.int .i64 tw,.bool tr,.bool tf]] w fun e w'=>e=.returned (.tuple #[.agg (gw (db r).1),.int .i64 (db r).2])∧Below w.heap.size w w':=by
 unfold aO
 have h9q:(op==9)=false:=beq_eq_false_iff_ne.2 h9
 have h10q:(op !=10)=true:=bne_iff_ne.2 h10
 clear h9 h10
 obtain ⟨wu,hwu,hsu,hbu,hcu,hfu⟩:=al w (aO op lit head name hi lo A n cap) 45
 obtain ⟨wv,hwv,hsv,hbv,hcv,hfv⟩:=al wu #[.int .i64 tw,.bool tr,.bool tf] 75
 obtain ⟨wz,hwz,hsz,hbz,hcz,hfz⟩:=al wv #[.int .i64 0,.bool false,.bool false] 75
 obtain ⟨wn,hwn,hsn,hbn,hcn,hfn⟩:=al wz #[.int .i64 0,.bool false,.bool false] 75
 have hEn:Below wn.heap.size wn wn:=Bi _ _
 have hEz:Below wz.heap.size wz wn:=hbn.trans (hEn.mono (by omega))
 have hEv:Below wv.heap.size wv wn:=hbz.trans (hEz.mono (by omega))
 have hEu:Below wu.heap.size wu wn:=hbv.trans (hEv.mono (by omega))
 have hw:=aa (hbu.trans (hEu.mono (by omega)))
 have cu:=fun i=>(bx hEu w.heap.size i (by omega)).trans (hcu i)
 have cv:=fun i=>(bx hEv wu.heap.size i (by omega)).trans (hcv i)
 have cz:=fun i=>(bx hEz wv.heap.size i (by omega)).trans (hcz i)
 have hqz:=fun i=>(ss hEz wv.heap.size i (by omega)).trans (hfz i)
 have cn:=fun i=>(bx hEn wz.heap.size i (by omega)).trans (hcn i)
 have hqn:=fun i=>(ss hEn wz.heap.size i (by omega)).trans (hfn i)
 simp only [hsu] at cv
 simp only [hsv,hsu] at cz hqz
 simp only [hsz,hsv,hsu] at cn hqn
 obtain ⟨u0,u1,u2,u3,u4,u5,u6,u7,u8⟩:=bU cu
 obtain ⟨v0,v1,v2⟩:=bF cv
 obtain ⟨z0,z1,z2⟩:=bF cz
 obtain ⟨n0,n1,n2⟩:=bF cn
 have hl1:w.heap.size<wn.heap.size:=by omega
 have hl2:w.heap.size+1<wn.heap.size:=by omega
 have hl3:w.heap.size+1+1<wn.heap.size:=by omega
 have hl4:w.heap.size+1+1+1<wn.heap.size:=by omega
 clear cu hcu hbu hfu cv hcv hbv hfv cz hcz hbz hfz cn hcn hbn hfn hEu hEv hEz hEn
 replace hsn:=aa hsn
 cases tr with
 |true=>
  go_enter func180,ntmps180
  go_wp2
  refine bodyPost_ret (v:=.tuple #[.agg #[.int .i64 0,.bool false,.bool false],.int .i64 9]) (by simp [results,results180,go_sem,z0,z1,z2]) rfl ⟨by rw [hv.out];rfl,?_⟩
  exact ad (ad (hw.out) (by omega) _ _ _) (by omega) _ _ _
 |false=>
  go_enter func180,ntmps180
  go_wp2
  refine bodyPost_ret (v:=.tuple #[.agg #[.int .i64 tw,.bool false,.bool tf],.int .i64 0]) (by simp [results,results180,go_sem,z0,z1,z2]) rfl ⟨by rw [hv.out];rfl,?_⟩
  exact ad (ad (hw.out) (by omega) _ _ _) (by omega) _ _ _
theorem pK (op:Int) (lit:Lt) (head name:ByteArray) (hi lo:Int) (A:Option Addr) (n cap:Nat) (t:Ty) (w:World) (hop:op=10→0≤lo∧lo≤hi∧hi<128):
  Calls prog 180 #[.agg (aO op lit head name hi lo A n cap),.agg #[.int .i64 t.w,.bool t.truth,.bool t.free]] w fun e w'=>e=.returned (.tuple #[.agg (gw (db (fX op hi lo t)).1),.int .i64 (db (fX op hi lo t)).2])∧Below w.heap.size w w':=by
 unfold aO
 obtain ⟨tw,tr,tf⟩:=t
 by_cases h9:op=9
 ·subst h9
  exact rc lit head name hi lo A n cap tw tr tf w _ (aa (by unfold fX;rw [if_pos rfl]))
 ·by_cases h10:op=10
  ·subst h10
   exact pJ lit head name hi lo A n cap tw tr tf w (hop rfl) _ (aa (by unfold fX;rw [if_neg h9,if_pos rfl]))
  ·exact rd op h9 h10 lit head name hi lo A n cap tw tr tf w _ (aa (by unfold fX;rw [if_neg h9,if_neg h10]))
end Go.Proofs.YtbbdhknagofghaaGreat

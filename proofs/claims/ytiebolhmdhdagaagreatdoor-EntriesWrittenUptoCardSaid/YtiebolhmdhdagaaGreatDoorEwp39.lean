import Derived.Test.YtiebolhmdhdagaaGreatDoorEwp09
set_option linter.all false
set_option maxHeartbeats 8000000
set_option maxRecDepth 100000
open Go.Proofs.Tryz
namespace Go.Proofs.YtiebolhmdhdagaaGreatDoor
open _root_.Nat renaming lt_of_lt_of_le→He, le_refl→Hh, le_trans→Hj, zero_le→Hm
open _root_.Go.RowKit.Below renaming refl→Hf
open _root_.Bool renaming true_and→Hk, and_eq_true→Hl
open _root_.Int renaming eq_ofNat_of_zero_le→Hv, toNat_natCast→HG
open _root_.List renaming all_eq_true→Hx, range→HJ, mem_range→HO
open Go.RowKit
abbrev EU (x:Pt):Value:=.agg #[.int .u64 x.vh,.int .u64 x.vl,.int .u64 x.mh,.int .u64 x.ml]
theorem oa {f:Nat→Bool} {k:Nat} (h:(HJ k).all f=true) (hk:f k=true):(HJ (k+1)).all f=true:=by
 rw [List.range_succ,List.all_append,h,List.all_cons,hk];rfl
theorem jT {f:Nat→Bool} {k n:Nat} (hk:k<n) (h:f k=false):(HJ n).all f=false:=by
 cases hc:(HJ n).all f with
 |false=>rfl
 |true=>rw [Hx.1 hc k (HO.2 hk)] at h;cases h
theorem qe (x:Pt) (y:Int) (w:World) (hx:em x):Calls prog 70 #[EU x,.int .i64 y] w fun e w'=>e=.returned (.bool (fa y x))∧Below w.heap.size w w':=by
 obtain ⟨hu1,hu2,hu3,hu4⟩:=hx
 have hB:=aa (fun (hi lo:Int) (h1:aI hi) (h2:aI lo) (j:Nat) (hj:j<128) (W:World)=>pI hi lo j W h1 h2 hj)
 have hv:=aa (show fa y x=(aj y&&(HJ 128).all (Aj y x)) from rfl)
 have hpb:=aa (fun k=>show Aj y x k= !(nB x.vh x.vl k&& !nB x.mh x.ml k ||decide (y≤(k:Int))&&nB x.mh x.ml k) from rfl)
 generalize Aj y x=f at hv hpb
 obtain ⟨vh,vl,mh,ml⟩:=x
 simp only at hu1 hu2 hu3 hu4 hpb ⊢
 obtain ⟨wa,hwa,hsa,hba,hca,-⟩:=ak w #[.int .u64 vh,.int .u64 vl,.int .u64 mh,.int .u64 ml] 63
 have x0:wa.cell? ⟨w.heap.size,0,none⟩=some (.int .u64 vh):=hca 0
 have x1:wa.cell? ⟨w.heap.size,1,none⟩=some (.int .u64 vl):=hca 1
 have x2:wa.cell? ⟨w.heap.size,2,none⟩=some (.int .u64 mh):=hca 2
 have x3:wa.cell? ⟨w.heap.size,3,none⟩=some (.int .u64 ml):=hca 3
 have hlt:w.heap.size<wa.heap.size:=by omega
 have hfin:=aa (fun w1 (h:Below wa.heap.size wa w1)=>hba.trans (h.mono (show w.heap.size≤wa.heap.size by omega)))
 replace hsa:=aa hsa
 clear hca hba
 by_cases h1:1≤y
 focus
  by_cases h2:y≤128
  focus
   have d1:decide (y<1)=false:=decide_eq_false (by omega)
   have d2:decide ((128:Int)<y)=false:=decide_eq_false (by omega)
   have hw:aj y=true:=(aA y).2 ⟨h1,h2⟩
   rw [hw,Hk] at hv
   clear hw
   go_enter func70,ntmps70
   go_wp2
   go_loopw [5] (fun i wr=>∃ k:Nat,k≤128∧i=.int .i64 k∧Hid ((HJ k).all f=true)∧Hid (Below wa.heap.size wa wr)) (fun i _=>128-(intOf i).toNat)
   case atStart=>exact ⟨0,Hm _,rfl,aa rfl,aa (Hf _ _)⟩
   case round=>
    obtain ⟨k,hk,rfl,hc,hbz⟩:=hrel
    by_cases hlk:k<128
    ·have hkz:(k:Int)<128:=by omega
     have kk:=ah hbz.out
     have p0:=(kk.1 _ 0 hlt).trans x0
     have p1:=(kk.1 _ 1 hlt).trans x1
     have p2:=(kk.1 _ 2 hlt).trans x2
     have p3:=(kk.1 _ 3 hlt).trans x3
     have hzz:=hbz.out.size
     have hlx:=He hlt hzz
     clear kk x0 x1 x2 x3 hlt
     have hV:=hB.out vh vl hu1 hu2 k hlk
     have hM:=hB.out mh ml hu3 hu4 k hlk
     have hok:=aa (fun h:f k=true=>oa hc.out h)
     have hno:=aa (fun h:f k=false=>show fa y ⟨vh,vl,mh,ml⟩=false by rw [hv.out];exact jT hlk h)
     have hfk:=hpb.out k
     generalize f k=F at hfk hok hno
     generalize nB vh vl k=a at hV hfk
     generalize nB mh ml k=b at hM hfk
     replace hV:=aa hV
     replace hM:=aa hM
     have hyk:decide ((k:Int)≥y)=decide (y≤(k:Int)):=rfl
     clear hyk hv hpb hc hu1 hu2 hu3 hu4 hk
     by_cases hy:y≤(k:Int)
     ·have dy:decide (y≤(k:Int))=true:=decide_eq_true hy
      rw [dy] at hfk
      cases a with
      |true=>cases b with
       |true=>
        have hF:F=false:=hfk
        replace hno:=aa (hno.out hF)
        clear hok hfk hF
        go_wp2_with (first|(go_at_call 129;(with_reducible refine (hV.out _).mono ?_);rintro e w' ⟨rfl,hb'⟩;have hs':=hb'.size;replace p0:=(hb'.cell (p:=⟨w.heap.size,0,none⟩) hlx).trans p0;replace p1:=(hb'.cell (p:=⟨w.heap.size,1,none⟩) hlx).trans p1;replace p2:=(hb'.cell (p:=⟨w.heap.size,2,none⟩) hlx).trans p2;replace p3:=(hb'.cell (p:=⟨w.heap.size,3,none⟩) hlx).trans p3;replace hlx:=He hlx hs';replace hbz:=aa (hbz.out.trans (hb'.mono hzz));replace hzz:=Hj hzz hs';clear hb' hs')|(go_at_call 129;(with_reducible refine (hM.out _).mono ?_);rintro e w' ⟨rfl,hb'⟩;have hs':=hb'.size;replace p0:=(hb'.cell (p:=⟨w.heap.size,0,none⟩) hlx).trans p0;replace p1:=(hb'.cell (p:=⟨w.heap.size,1,none⟩) hlx).trans p1;replace p2:=(hb'.cell (p:=⟨w.heap.size,2,none⟩) hlx).trans p2;replace p3:=(hb'.cell (p:=⟨w.heap.size,3,none⟩) hlx).trans p3;replace hlx:=He hlx hs';replace hbz:=aa (hbz.out.trans (hb'.mono hzz));replace hzz:=Hj hzz hs';clear hb' hs'))
        go_ret
        exact ⟨ad hno.out.symm,hfin.out _ hbz.out⟩
       |false=>
        have hF:F=false:=hfk
        replace hno:=aa (hno.out hF)
        clear hok hfk hF
        go_wp2_with (first|(go_at_call 129;(with_reducible refine (hV.out _).mono ?_);rintro e w' ⟨rfl,hb'⟩;have hs':=hb'.size;replace p0:=(hb'.cell (p:=⟨w.heap.size,0,none⟩) hlx).trans p0;replace p1:=(hb'.cell (p:=⟨w.heap.size,1,none⟩) hlx).trans p1;replace p2:=(hb'.cell (p:=⟨w.heap.size,2,none⟩) hlx).trans p2;replace p3:=(hb'.cell (p:=⟨w.heap.size,3,none⟩) hlx).trans p3;replace hlx:=He hlx hs';replace hbz:=aa (hbz.out.trans (hb'.mono hzz));replace hzz:=Hj hzz hs';clear hb' hs')|(go_at_call 129;(with_reducible refine (hM.out _).mono ?_);rintro e w' ⟨rfl,hb'⟩;have hs':=hb'.size;replace p0:=(hb'.cell (p:=⟨w.heap.size,0,none⟩) hlx).trans p0;replace p1:=(hb'.cell (p:=⟨w.heap.size,1,none⟩) hlx).trans p1;replace p2:=(hb'.cell (p:=⟨w.heap.size,2,none⟩) hlx).trans p2;replace p3:=(hb'.cell (p:=⟨w.heap.size,3,none⟩) hlx).trans p3;replace hlx:=He hlx hs';replace hbz:=aa (hbz.out.trans (hb'.mono hzz));replace hzz:=Hj hzz hs';clear hb' hs'))
        go_ret
        exact ⟨ad hno.out.symm,hfin.out _ hbz.out⟩
      |false=>cases b with
       |true=>
        have hF:F=false:=hfk
        replace hno:=aa (hno.out hF)
        clear hok hfk hF
        go_wp2_with (first|(go_at_call 129;(with_reducible refine (hV.out _).mono ?_);rintro e w' ⟨rfl,hb'⟩;have hs':=hb'.size;replace p0:=(hb'.cell (p:=⟨w.heap.size,0,none⟩) hlx).trans p0;replace p1:=(hb'.cell (p:=⟨w.heap.size,1,none⟩) hlx).trans p1;replace p2:=(hb'.cell (p:=⟨w.heap.size,2,none⟩) hlx).trans p2;replace p3:=(hb'.cell (p:=⟨w.heap.size,3,none⟩) hlx).trans p3;replace hlx:=He hlx hs';replace hbz:=aa (hbz.out.trans (hb'.mono hzz));replace hzz:=Hj hzz hs';clear hb' hs')|(go_at_call 129;(with_reducible refine (hM.out _).mono ?_);rintro e w' ⟨rfl,hb'⟩;have hs':=hb'.size;replace p0:=(hb'.cell (p:=⟨w.heap.size,0,none⟩) hlx).trans p0;replace p1:=(hb'.cell (p:=⟨w.heap.size,1,none⟩) hlx).trans p1;replace p2:=(hb'.cell (p:=⟨w.heap.size,2,none⟩) hlx).trans p2;replace p3:=(hb'.cell (p:=⟨w.heap.size,3,none⟩) hlx).trans p3;replace hlx:=He hlx hs';replace hbz:=aa (hbz.out.trans (hb'.mono hzz));replace hzz:=Hj hzz hs';clear hb' hs'))
        go_ret
        exact ⟨ad hno.out.symm,hfin.out _ hbz.out⟩
       |false=>
        have hF:F=true:=hfk
        replace hok:=aa (hok.out hF)
        clear hno hfk hF
        go_wp2_with (first|(go_at_call 129;(with_reducible refine (hV.out _).mono ?_);rintro e w' ⟨rfl,hb'⟩;have hs':=hb'.size;replace p0:=(hb'.cell (p:=⟨w.heap.size,0,none⟩) hlx).trans p0;replace p1:=(hb'.cell (p:=⟨w.heap.size,1,none⟩) hlx).trans p1;replace p2:=(hb'.cell (p:=⟨w.heap.size,2,none⟩) hlx).trans p2;replace p3:=(hb'.cell (p:=⟨w.heap.size,3,none⟩) hlx).trans p3;replace hlx:=He hlx hs';replace hbz:=aa (hbz.out.trans (hb'.mono hzz));replace hzz:=Hj hzz hs';clear hb' hs')|(go_at_call 129;(with_reducible refine (hM.out _).mono ?_);rintro e w' ⟨rfl,hb'⟩;have hs':=hb'.size;replace p0:=(hb'.cell (p:=⟨w.heap.size,0,none⟩) hlx).trans p0;replace p1:=(hb'.cell (p:=⟨w.heap.size,1,none⟩) hlx).trans p1;replace p2:=(hb'.cell (p:=⟨w.heap.size,2,none⟩) hlx).trans p2;replace p3:=(hb'.cell (p:=⟨w.heap.size,3,none⟩) hlx).trans p3;replace hlx:=He hlx hs';replace hbz:=aa (hbz.out.trans (hb'.mono hzz));replace hzz:=Hj hzz hs';clear hb' hs'))
        go_roundw
        case rel=>exact ⟨k+1,by omega,by go_num,hok,hbz⟩
        case measure=>simp [intOf];omega
     ·have dy:decide (y≤(k:Int))=false:=decide_eq_false hy
      rw [dy] at hfk
      cases a with
      |true=>cases b with
       |true=>
        have hF:F=true:=hfk
        replace hok:=aa (hok.out hF)
        clear hno hfk hF
        go_wp2_with (first|(go_at_call 129;(with_reducible refine (hV.out _).mono ?_);rintro e w' ⟨rfl,hb'⟩;have hs':=hb'.size;replace p0:=(hb'.cell (p:=⟨w.heap.size,0,none⟩) hlx).trans p0;replace p1:=(hb'.cell (p:=⟨w.heap.size,1,none⟩) hlx).trans p1;replace p2:=(hb'.cell (p:=⟨w.heap.size,2,none⟩) hlx).trans p2;replace p3:=(hb'.cell (p:=⟨w.heap.size,3,none⟩) hlx).trans p3;replace hlx:=He hlx hs';replace hbz:=aa (hbz.out.trans (hb'.mono hzz));replace hzz:=Hj hzz hs';clear hb' hs')|(go_at_call 129;(with_reducible refine (hM.out _).mono ?_);rintro e w' ⟨rfl,hb'⟩;have hs':=hb'.size;replace p0:=(hb'.cell (p:=⟨w.heap.size,0,none⟩) hlx).trans p0;replace p1:=(hb'.cell (p:=⟨w.heap.size,1,none⟩) hlx).trans p1;replace p2:=(hb'.cell (p:=⟨w.heap.size,2,none⟩) hlx).trans p2;replace p3:=(hb'.cell (p:=⟨w.heap.size,3,none⟩) hlx).trans p3;replace hlx:=He hlx hs';replace hbz:=aa (hbz.out.trans (hb'.mono hzz));replace hzz:=Hj hzz hs';clear hb' hs'))
        go_roundw
        case rel=>exact ⟨k+1,by omega,by go_num,hok,hbz⟩
        case measure=>simp [intOf];omega
       |false=>
        have hF:F=false:=hfk
        replace hno:=aa (hno.out hF)
        clear hok hfk hF
        go_wp2_with (first|(go_at_call 129;(with_reducible refine (hV.out _).mono ?_);rintro e w' ⟨rfl,hb'⟩;have hs':=hb'.size;replace p0:=(hb'.cell (p:=⟨w.heap.size,0,none⟩) hlx).trans p0;replace p1:=(hb'.cell (p:=⟨w.heap.size,1,none⟩) hlx).trans p1;replace p2:=(hb'.cell (p:=⟨w.heap.size,2,none⟩) hlx).trans p2;replace p3:=(hb'.cell (p:=⟨w.heap.size,3,none⟩) hlx).trans p3;replace hlx:=He hlx hs';replace hbz:=aa (hbz.out.trans (hb'.mono hzz));replace hzz:=Hj hzz hs';clear hb' hs')|(go_at_call 129;(with_reducible refine (hM.out _).mono ?_);rintro e w' ⟨rfl,hb'⟩;have hs':=hb'.size;replace p0:=(hb'.cell (p:=⟨w.heap.size,0,none⟩) hlx).trans p0;replace p1:=(hb'.cell (p:=⟨w.heap.size,1,none⟩) hlx).trans p1;replace p2:=(hb'.cell (p:=⟨w.heap.size,2,none⟩) hlx).trans p2;replace p3:=(hb'.cell (p:=⟨w.heap.size,3,none⟩) hlx).trans p3;replace hlx:=He hlx hs';replace hbz:=aa (hbz.out.trans (hb'.mono hzz));replace hzz:=Hj hzz hs';clear hb' hs'))
        go_ret
        exact ⟨ad hno.out.symm,hfin.out _ hbz.out⟩
      |false=>cases b with
       |true=>
        have hF:F=true:=hfk
        replace hok:=aa (hok.out hF)
        clear hno hfk hF
        go_wp2_with (first|(go_at_call 129;(with_reducible refine (hV.out _).mono ?_);rintro e w' ⟨rfl,hb'⟩;have hs':=hb'.size;replace p0:=(hb'.cell (p:=⟨w.heap.size,0,none⟩) hlx).trans p0;replace p1:=(hb'.cell (p:=⟨w.heap.size,1,none⟩) hlx).trans p1;replace p2:=(hb'.cell (p:=⟨w.heap.size,2,none⟩) hlx).trans p2;replace p3:=(hb'.cell (p:=⟨w.heap.size,3,none⟩) hlx).trans p3;replace hlx:=He hlx hs';replace hbz:=aa (hbz.out.trans (hb'.mono hzz));replace hzz:=Hj hzz hs';clear hb' hs')|(go_at_call 129;(with_reducible refine (hM.out _).mono ?_);rintro e w' ⟨rfl,hb'⟩;have hs':=hb'.size;replace p0:=(hb'.cell (p:=⟨w.heap.size,0,none⟩) hlx).trans p0;replace p1:=(hb'.cell (p:=⟨w.heap.size,1,none⟩) hlx).trans p1;replace p2:=(hb'.cell (p:=⟨w.heap.size,2,none⟩) hlx).trans p2;replace p3:=(hb'.cell (p:=⟨w.heap.size,3,none⟩) hlx).trans p3;replace hlx:=He hlx hs';replace hbz:=aa (hbz.out.trans (hb'.mono hzz));replace hzz:=Hj hzz hs';clear hb' hs'))
        go_roundw
        case rel=>exact ⟨k+1,by omega,by go_num,hok,hbz⟩
        case measure=>simp [intOf];omega
       |false=>
        have hF:F=true:=hfk
        replace hok:=aa (hok.out hF)
        clear hno hfk hF
        go_wp2_with (first|(go_at_call 129;(with_reducible refine (hV.out _).mono ?_);rintro e w' ⟨rfl,hb'⟩;have hs':=hb'.size;replace p0:=(hb'.cell (p:=⟨w.heap.size,0,none⟩) hlx).trans p0;replace p1:=(hb'.cell (p:=⟨w.heap.size,1,none⟩) hlx).trans p1;replace p2:=(hb'.cell (p:=⟨w.heap.size,2,none⟩) hlx).trans p2;replace p3:=(hb'.cell (p:=⟨w.heap.size,3,none⟩) hlx).trans p3;replace hlx:=He hlx hs';replace hbz:=aa (hbz.out.trans (hb'.mono hzz));replace hzz:=Hj hzz hs';clear hb' hs')|(go_at_call 129;(with_reducible refine (hM.out _).mono ?_);rintro e w' ⟨rfl,hb'⟩;have hs':=hb'.size;replace p0:=(hb'.cell (p:=⟨w.heap.size,0,none⟩) hlx).trans p0;replace p1:=(hb'.cell (p:=⟨w.heap.size,1,none⟩) hlx).trans p1;replace p2:=(hb'.cell (p:=⟨w.heap.size,2,none⟩) hlx).trans p2;replace p3:=(hb'.cell (p:=⟨w.heap.size,3,none⟩) hlx).trans p3;replace hlx:=He hlx hs';replace hbz:=aa (hbz.out.trans (hb'.mono hzz));replace hzz:=Hj hzz hs';clear hb' hs'))
        go_roundw
        case rel=>exact ⟨k+1,by omega,by go_num,hok,hbz⟩
        case measure=>simp [intOf];omega
    ·have hke:k=128:=by omega
     subst hke
     have hv2:=aa (show fa y ⟨vh,vl,mh,ml⟩=true by rw [hv.out];exact hc.out)
     go_wp2
     go_ret
     exact ⟨ad hv2.out.symm,hfin.out _ hbz.out⟩
  rotate_right
  have d1:decide (y<1)=false:=decide_eq_false (by omega)
  have d2:decide ((128:Int)<y)=true:=decide_eq_true (by omega)
  have hv2:=aa (show fa y ⟨vh,vl,mh,ml⟩=false by rw [hv.out,show aj y=false by simp [aj,h2]];rfl)
 rotate_right
 have d1:decide (y<1)=true:=decide_eq_true (by omega)
 have hv2:=aa (show fa y ⟨vh,vl,mh,ml⟩=false by rw [hv.out,show aj y=false by simp [aj,h1]];rfl)
 all_goals
  go_enter func70,ntmps70
  go_wp2
  go_ret
  exact ⟨ad hv2.out.symm,hfin.out _ (Hf _ _)⟩
theorem BW {M w n:Nat} (hn:n≤w) (h1:∀ i,w-n≤i→i<w→M.testBit i=true) (h2:n<w→M.testBit (w-1-n)=false):ut w M=if (HJ (w-n)).all (fun i=> !M.testBit i) then some n else none:=by
 unfold ut
 rw [vT hn h1 h2]
theorem EV {y:Int} {x:Pt} {n:Nat} (hm:fa y x=true) (hn:n≤y.toNat) (h1:∀ i,y.toNat-n≤i→i<y.toNat→(nv x.mh x.ml).testBit i=true) (h2:n<y.toNat→(nv x.mh x.ml).testBit (y.toNat-1-n)=false):
  zo y x=if (HJ (y.toNat-n)).all (fun i=> !(nv x.mh x.ml).testBit i) then ((n:Int),true) else (0,false):=by
 unfold zo mY
 rw [if_pos hm,BW hn h1 h2]
 by_cases h:(HJ (y.toNat-n)).all (fun i=> !(nv x.mh x.ml).testBit i)=true
 ·rw [if_pos h,if_pos h]
 ·rw [if_neg h,if_neg h]
theorem yZ (x:Pt) (y:Int) (w:World) (hx:em x):Calls prog 71 #[EU x,.int .i64 y] w fun e w'=>e=.returned (.tuple #[.int .i64 (zo y x).1,.bool (zo y x).2])∧Below w.heap.size w w':=by
 have hP:=aa (fun W=>qe x y W hx)
 obtain ⟨hu1,hu2,hu3,hu4⟩:=hx
 have hB:=aa (fun (j:Nat) (hj:j<128) (W:World)=>pI x.mh x.ml j W hu3 hu4 hj)
 have hnb:=aa (fun j=>vR hu3 hu4 j)
 obtain ⟨wa,hwa,hsa,hba,hca,-⟩:=ak w #[.int .u64 x.vh,.int .u64 x.vl,.int .u64 x.mh,.int .u64 x.ml] 63
 have p0:wa.cell? ⟨w.heap.size,0,none⟩=some (.int .u64 x.vh):=hca 0
 have p1:wa.cell? ⟨w.heap.size,1,none⟩=some (.int .u64 x.vl):=hca 1
 have p2:wa.cell? ⟨w.heap.size,2,none⟩=some (.int .u64 x.mh):=hca 2
 have p3:wa.cell? ⟨w.heap.size,3,none⟩=some (.int .u64 x.ml):=hca 3
 have hlx:w.heap.size<wa.heap.size:=by omega
 have q0:=p0
 have q1:=p1
 have q2:=p2
 have q3:=p3
 have hl0:=hlx
 have hfin:=aa (fun w1 (h:Below wa.heap.size wa w1)=>hba.trans (h.mono (show w.heap.size≤wa.heap.size by omega)))
 have hbz:=aa (Hf wa.heap.size wa)
 have hzz:wa.heap.size≤wa.heap.size:=Hh _
 replace hsa:=aa hsa
 clear hca hba
 cases hm:fa y x with
 |false=>
  have hv:=aa (show zo y x=(0,false) by unfold zo mY;rw [hm];rfl)
  rw [hm] at hP
  clear hm
  go_enter func71,ntmps71
  go_wp2_with (go_at_call 70;refine (hP.out _).mono ?_;rintro e w1 ⟨rfl,hb1⟩)
  refine bodyPost_ret (v:=.tuple #[.int .i64 0,.bool false]) (by simp [results,results71,go_sem]) rfl ⟨by rw [hv.out],hfin.out _ hb1⟩
 |true=>
  have hw:1≤y∧y≤128:=by
   unfold fa at hm
   rw [Hl] at hm
   exact (aA y).1 hm.1
  obtain ⟨v,rfl⟩:=Hv (show 0≤y by omega)
  have hof:=aa (fun (n:Nat)=>EV (n:=n) hm)
  rw [hm] at hP
  clear hm
  simp only [HG] at hof
  generalize zo (v:Int) x=RES at hof ⊢
  generalize nv x.mh x.ml=M at hof hnb
  generalize hmb:(fun j=>nB x.mh x.ml j)=mb at hB hnb
  have hmb':∀ j,nB x.mh x.ml j=mb j:=fun j=>by rw [←hmb]
  simp only [hmb'] at hB hnb
  clear hmb hmb'
  go_enter func71,ntmps71
  go_wp2_with (go_at_call 70;refine (hP.out _).mono ?_;rintro e w1 ⟨rfl,hb1⟩)
  have hw1:IntKind.i64.wrap ((v:Int)-1)=(v:Int)-1:=by rw [IntKind.wrap_i64];omega
  go_loopw [6] (fun i wr=>∃ k:Nat,k≤v∧i=.int .i64 k∧Hid (∀ i,v-k≤i→i<v→M.testBit i=true)∧Hid (Below wa.heap.size wa wr)) (fun i _=>v-(intOf i).toNat)
  case atStart=>exact ⟨0,Hm _,rfl,aa (fun i a b=>absurd b (by omega)),aa hb1⟩
  case round=>
   clear hb1 hbz hzz
   obtain ⟨n,hn,rfl,hones,hbz⟩:=hrel
   have kk:=ah hbz.out
   replace p0:=(kk.1 _ 0 hlx).trans p0
   replace p1:=(kk.1 _ 1 hlx).trans p1
   replace p2:=(kk.1 _ 2 hlx).trans p2
   replace p3:=(kk.1 _ 3 hlx).trans p3
   have hzz:=hbz.out.size
   replace hlx:=He hlx hzz
   clear kk
   by_cases hnv:n<v
   ·have hnz:(n:Int)<(v:Int):=by omega
    have hM:=hB.out (v-1-n) (by omega)
    rw [show (((v-1-n:Nat)):Int)=(v:Int)-1-n by omega] at hM
    have hbit:=(hnb.out (v-1-n)).symm
    have hw2:IntKind.i64.wrap ((v:Int)-1-n)=(v:Int)-1-n:=by rw [IntKind.wrap_i64];omega
    generalize mb (v-1-n)=b at hM hbit
    replace hM:=aa hM
    cases b with
    |true=>
     have hones2:=aa (show ∀ i,v-(n+1)≤i→i<v→M.testBit i=true from fun i a b=>by
      by_cases h:i=v-1-n
      ·rw [h];exact hbit
      ·exact hones.out i (by omega) b)
     clear hbit hones
     go_wp2_with (first|(go_at_call 70;refine (hP.out _).mono ?_;rintro e w1 ⟨rfl,hb1⟩)|(go_at_call 129;(with_reducible refine (hM.out _).mono ?_);rintro e w' ⟨rfl,hb'⟩;have hs':=hb'.size;replace p0:=(hb'.cell (p:=⟨w.heap.size,0,none⟩) hlx).trans p0;replace p1:=(hb'.cell (p:=⟨w.heap.size,1,none⟩) hlx).trans p1;replace p2:=(hb'.cell (p:=⟨w.heap.size,2,none⟩) hlx).trans p2;replace p3:=(hb'.cell (p:=⟨w.heap.size,3,none⟩) hlx).trans p3;replace hlx:=He hlx hs';replace hbz:=aa (hbz.out.trans (hb'.mono hzz));replace hzz:=Hj hzz hs';clear hb' hs'))
     go_roundw
     case rel=>exact ⟨n+1,by omega,by go_num,hones2,hbz⟩
     case measure=>simp [intOf];omega
    |false=>
     have hres:=aa (hof.out n (by omega) hones.out (fun _=>hbit))
     clear hbit hones hof
     go_wp2_with (first|(go_at_call 70;refine (hP.out _).mono ?_;rintro e w1 ⟨rfl,hb1⟩)|(go_at_call 129;(with_reducible refine (hM.out _).mono ?_);rintro e w' ⟨rfl,hb'⟩;have hs':=hb'.size;replace p0:=(hb'.cell (p:=⟨w.heap.size,0,none⟩) hlx).trans p0;replace p1:=(hb'.cell (p:=⟨w.heap.size,1,none⟩) hlx).trans p1;replace p2:=(hb'.cell (p:=⟨w.heap.size,2,none⟩) hlx).trans p2;replace p3:=(hb'.cell (p:=⟨w.heap.size,3,none⟩) hlx).trans p3;replace hlx:=He hlx hs';replace hbz:=aa (hbz.out.trans (hb'.mono hzz));replace hzz:=Hj hzz hs';clear hb' hs'))
     go_loopw [7] (fun i ws=>∃ k:Nat,n≤k∧k≤v∧i=.int .i64 k∧Hid (∀ i,v-k≤i→i<v-n→M.testBit i=false)∧Hid (Below wa.heap.size wa ws)) (fun i _=>v-(intOf i).toNat)
     case atStart=>exact ⟨n,Hh _,hn,rfl,aa (fun i a b=>absurd b (by omega)),hbz⟩
     case round=>
      clear hbz
      obtain ⟨k,hnk,hk,rfl,hzs,hbz⟩:=hrel
      have kk:=ah hbz.out
      have hlx:=He hl0 hbz.out.size
      have p0:=(kk.1 _ 0 hl0).trans q0
      have p1:=(kk.1 _ 1 hl0).trans q1
      have p2:=(kk.1 _ 2 hl0).trans q2
      have p3:=(kk.1 _ 3 hl0).trans q3
      have hzz:=hbz.out.size
      clear kk
      by_cases hkv:k<v
      ·have hkz:(k:Int)<(v:Int):=by omega
       have hM:=hB.out (v-1-k) (by omega)
       rw [show (((v-1-k:Nat)):Int)=(v:Int)-1-k by omega] at hM
       have hbit:=(hnb.out (v-1-k)).symm
       have hw2:IntKind.i64.wrap ((v:Int)-1-k)=(v:Int)-1-k:=by rw [IntKind.wrap_i64];omega
       generalize mb (v-1-k)=b at hM hbit
       replace hM:=aa hM
       cases b with
       |true=>
        have hr2:=aa (show RES=(0,false) by rw [hres.out,if_neg (by rw [Bool.not_eq_true];exact jT (k:=v-1-k) (by omega) (by simp [hbit]))])
        clear hbit hzs hres
        go_wp2_with (first|(go_at_call 70;refine (hP.out _).mono ?_;rintro e w1 ⟨rfl,hb1⟩)|(go_at_call 129;(with_reducible refine (hM.out _).mono ?_);rintro e w' ⟨rfl,hb'⟩;have hs':=hb'.size;replace p0:=(hb'.cell (p:=⟨w.heap.size,0,none⟩) hlx).trans p0;replace p1:=(hb'.cell (p:=⟨w.heap.size,1,none⟩) hlx).trans p1;replace p2:=(hb'.cell (p:=⟨w.heap.size,2,none⟩) hlx).trans p2;replace p3:=(hb'.cell (p:=⟨w.heap.size,3,none⟩) hlx).trans p3;replace hlx:=He hlx hs';replace hbz:=aa (hbz.out.trans (hb'.mono hzz));replace hzz:=Hj hzz hs';clear hb' hs'))
        refine bodyPost_ret (v:=.tuple #[.int .i64 0,.bool false]) (by simp [results,results71,go_sem]) rfl ⟨by rw [hr2.out],hfin.out _ hbz.out⟩
       |false=>
        have hz2:=aa (show ∀ i,v-(k+1)≤i→i<v-n→M.testBit i=false from fun i a b=>by
         by_cases h:i=v-1-k
         ·rw [h];exact hbit
         ·exact hzs.out i (by omega) b)
        clear hbit hzs
        go_wp2_with (first|(go_at_call 70;refine (hP.out _).mono ?_;rintro e w1 ⟨rfl,hb1⟩)|(go_at_call 129;(with_reducible refine (hM.out _).mono ?_);rintro e w' ⟨rfl,hb'⟩;have hs':=hb'.size;replace p0:=(hb'.cell (p:=⟨w.heap.size,0,none⟩) hlx).trans p0;replace p1:=(hb'.cell (p:=⟨w.heap.size,1,none⟩) hlx).trans p1;replace p2:=(hb'.cell (p:=⟨w.heap.size,2,none⟩) hlx).trans p2;replace p3:=(hb'.cell (p:=⟨w.heap.size,3,none⟩) hlx).trans p3;replace hlx:=He hlx hs';replace hbz:=aa (hbz.out.trans (hb'.mono hzz));replace hzz:=Hj hzz hs';clear hb' hs'))
        go_roundw
        case rel=>exact ⟨k+1,by omega,by omega,by go_num,hz2,hbz⟩
        case measure=>simp [intOf];omega
      ·have hkz:¬(k:Int)<(v:Int):=by omega
       have hr2:=aa (show RES=((n:Int),true) by rw [hres.out,if_pos];rw [Hx];intro i hi;rw [HO] at hi;simp [hzs.out i (by omega) hi])
       clear hzs hres
       go_wp2
       refine bodyPost_ret (v:=.tuple #[.int .i64 (n:Int),.bool true]) (by simp [results,results71,go_sem]) rfl ⟨by rw [hr2.out],hfin.out _ hbz.out⟩
   ·have hnz:¬(n:Int)<(v:Int):=by omega
    have hres:=aa (hof.out n (by omega) hones.out (fun h=>absurd h hnv))
    clear hones hof
    go_wp2_with (first|(go_at_call 70;refine (hP.out _).mono ?_;rintro e w1 ⟨rfl,hb1⟩)|(go_at_call 129;(with_reducible refine (hM.out _).mono ?_);rintro e w' ⟨rfl,hb'⟩;have hs':=hb'.size;replace p0:=(hb'.cell (p:=⟨w.heap.size,0,none⟩) hlx).trans p0;replace p1:=(hb'.cell (p:=⟨w.heap.size,1,none⟩) hlx).trans p1;replace p2:=(hb'.cell (p:=⟨w.heap.size,2,none⟩) hlx).trans p2;replace p3:=(hb'.cell (p:=⟨w.heap.size,3,none⟩) hlx).trans p3;replace hlx:=He hlx hs';replace hbz:=aa (hbz.out.trans (hb'.mono hzz));replace hzz:=Hj hzz hs';clear hb' hs'))
    go_loopw [7] (fun i ws=>∃ k:Nat,n≤k∧k≤v∧i=.int .i64 k∧Hid (∀ i,v-k≤i→i<v-n→M.testBit i=false)∧Hid (Below wa.heap.size wa ws)) (fun i _=>v-(intOf i).toNat)
    case atStart=>exact ⟨n,Hh _,hn,rfl,aa (fun i a b=>absurd b (by omega)),hbz⟩
    case round=>
     clear hbz
     obtain ⟨k,hnk,hk,rfl,hzs,hbz⟩:=hrel
     have kk:=ah hbz.out
     have hlx:=He hl0 hbz.out.size
     have p0:=(kk.1 _ 0 hl0).trans q0
     have p1:=(kk.1 _ 1 hl0).trans q1
     have p2:=(kk.1 _ 2 hl0).trans q2
     have p3:=(kk.1 _ 3 hl0).trans q3
     have hzz:=hbz.out.size
     clear kk
     by_cases hkv:k<v
     ·exact absurd hkv (by omega)
     ·have hkz:¬(k:Int)<(v:Int):=by omega
      have hr2:=aa (show RES=((n:Int),true) by rw [hres.out,if_pos];rw [Hx];intro i hi;rw [HO] at hi;simp [hzs.out i (by omega) hi])
      clear hzs hres
      go_wp2
      refine bodyPost_ret (v:=.tuple #[.int .i64 (n:Int),.bool true]) (by simp [results,results71,go_sem]) rfl ⟨by rw [hr2.out],hfin.out _ hbz.out⟩
end Go.Proofs.YtiebolhmdhdagaaGreatDoor

import Derived.Test.YtiebolhmdhdagaaGreatDoorEwp33
set_option linter.all false
set_option maxHeartbeats 8000000
set_option maxRecDepth 100000
open Go.Proofs.Tryz
namespace Go.Proofs.YtiebolhmdhdagaaGreatDoor
open _root_.Nat renaming lt_of_lt_of_le→He, le_refl→Hh, zero_le→Hm
open _root_.Go.RowKit.Below renaming refl→Hf
open Go.RowKit
section
open Go.RowKit Go.Lib
theorem BQ {w:World} {B g:Nat} (h:bz w g [.string ⟨#[115,49]⟩]) (hb:g<B):Sl 1 bZ w B (some ⟨g,0,none⟩) DW:=rp h hb rfl ⟨rfl,by decide⟩
theorem ET {w:World} {B p q x s:Nat} (hp:bz w p [.int .u64 0,.int .u64 192,.int .u64 0,.int .u64 240]) (hq:bz w q [.int .u64 0,.int .u64 2]) (hx:bz w x [.int .i64 0,sV p,.int .i64 4,.int .i64 0,.int .i64 0,sV q]) (hs:bz w s [sV x]) (lp:p<B) (lq:q<B) (lx:x<B) (ls:s<B):
  Sl 1 fh w B (some ⟨s,0,none⟩) [[E4]]:=
 rp hs ls rfl ⟨some ⟨x,0,none⟩,1,rfl,rp hx lx rfl ⟨some ⟨p,0,none⟩,1,some ⟨q,0,none⟩,1,rfl,
  rp hp lp rfl ⟨rfl,⟨by decide,by decide⟩,⟨by decide,by decide⟩,⟨by decide,by decide⟩,⟨by decide,by decide⟩⟩,
  rp hq lq rfl ⟨rfl,⟨by decide,by decide⟩,⟨by decide,by decide⟩⟩⟩⟩
theorem tG (w:World) (mm:Int) (hV:iA w) (hm:w.cell? ⟨2,0,none⟩=some (.int .i64 mm)) (h0:2<w.heap.size):
  Calls prog 6 #[] w fun e w'=>e=.returned (.bool true)∧Below w.heap.size w w':=by
 have hK:=aa (fun (W:World)=>ux W)
 have hR1:=aa (fun (w1:World) (A2 A3 A4 A5 A10 A11 A12:Option Addr) (hP:cJ w1 w1.heap.size none A2 A3 A4 A5 none none none none A10 A11 A12 Cv) (hb:Below w.heap.size w w1)=>
  show Calls prog 14 #[.agg #[.slice none 0 0,.slice A2 1 1,.slice A3 1 1,.slice A4 1 1,.slice A5 1 1,.slice none 0 0,.slice none 0 0,.slice none 0 0,.slice none 0 0,.slice A10 1 1,.slice A11 1 1,.slice A12 1 1],.slice (some ⟨w1.heap.size,0,none⟩) 1 1,.string ⟨#[115,49,46,116,58,32,49,57,50,47,52,32,45,62,32,102,119,100,40,50,41,59]⟩] (w1.alloc (.cells #[.string ⟨#[115,49]⟩] 9)) fun e w'=>∃ A,e=.returned (.tuple #[.slice A 1 1,.agg #[.int .i64 0,.int .i64 0,.int .i64 0]])∧Sl 1 fh w' w'.heap.size A [[E4]]∧Below w.heap.size w w' from by
   have ha:Below w1.heap.size w1 (w1.alloc (.cells #[.string ⟨#[115,49]⟩] 9)):=(Hf _ _).alloc (Hh _) _
   have hb':=hb.trans (ha.mono hb.size)
   have h:=tF none A2 A3 A4 A5 none none none none A10 A11 A12 Cv 0 1 1 1 1 0 0 0 0 1 1 1 (some ⟨w1.heap.size,0,none⟩) 1 DW ⟨#[115,49,46,116,58,32,49,57,50,47,52,32,45,62,32,102,119,100,40,50,41,59]⟩ Et [[E4]] 100 mm (w1.alloc (.cells #[.string ⟨#[115,49]⟩] 9)) ((hP.below ha).more ha.size) AD (by decide) (BQ (ba (by simp)) (by simp)) (by decide) (hV.below hb' (Hh _)) (He h0 hb'.size) ((hb'.cell (p:=⟨2,0,none⟩) h0).trans hm) Eu Ew
   refine h.mono ?_
   rintro e w' ⟨A,he,-,hs,hbw⟩
   exact ⟨A,he,hs,hb'.trans (hbw.mono hb'.size)⟩)
 have hR2:=aa (fun (w1:World) (A2 A3 A4 A5 A10 A11 A12:Option Addr) (hP:cJ w1 w1.heap.size none A2 A3 A4 A5 none none none none A10 A11 A12 Cv) (hb:Below w.heap.size w w1)=>
  show Calls prog 14 #[.agg #[.slice none 0 0,.slice A2 1 1,.slice A3 1 1,.slice A4 1 1,.slice A5 1 1,.slice none 0 0,.slice none 0 0,.slice none 0 0,.slice none 0 0,.slice A10 1 1,.slice A11 1 1,.slice A12 1 1],.slice (some ⟨w1.heap.size,0,none⟩) 1 1,.string ⟨#[115,49,46,116,58,32,49,57,50,32,45,62,32,102,119,100,40,50,41,59]⟩] (w1.alloc (.cells #[.string ⟨#[115,49]⟩] 9)) fun e w'=>e=.returned (.tuple #[.slice none 0 0,.agg #[.int .i64 9,.int .i64 1,.int .i64 7]])∧Below w1.heap.size w1 w' from by
   have ha:Below w1.heap.size w1 (w1.alloc (.cells #[.string ⟨#[115,49]⟩] 9)):=(Hf _ _).alloc (Hh _) _
   have hb':=hb.trans (ha.mono hb.size)
   have h:=vg none A2 A3 A4 A5 none none none none A10 A11 A12 Cv 0 1 1 1 1 0 0 0 0 1 1 1 (some ⟨w1.heap.size,0,none⟩) 1 DW ⟨#[115,49,46,116,58,32,49,57,50,32,45,62,32,102,119,100,40,50,41,59]⟩ np xG 6 mm (w1.alloc (.cells #[.string ⟨#[115,49]⟩] 9)) ((hP.below ha).more ha.size) AD (by decide) (BQ (ba (by simp)) (by simp)) (by decide) (hV.below hb' (Hh _)) (He h0 hb'.size) ((hb'.cell (p:=⟨2,0,none⟩) h0).trans hm) Ev
    FO.1 FO.2.1 FO.2.2 0 (by decide) Ff.1 Ff.2.1 Ff.2.2.1 Ff.2.2.2.1 Ff.2.2.2.2 rfl (by decide) rfl Fg.1 Fg.2.1 Fg.2.2.1 Fg.2.2.2.1 Fg.2.2.2.2 (by decide)
   refine h.mono ?_
   rintro e w' ⟨he,hbw⟩
   refine ⟨?_,ha.trans (hbw.mono ha.size)⟩
   rw [he,show (⟨#[115,49,46,116,58,32,49,57,50,32,45,62,32,102,119,100,40,50,41,59]⟩:ByteArray).data.toList=CV from rfl]
   simp only [dg,CW]
   rfl)
 clear hV hm
 go_enter func6,ntmps6
 go_upto_region 2 with (first|(go_at_call 17;refine (hK.out _).mono ?_;rintro e w1 ⟨A2,A3,A4,A5,A10,A11,A12,rfl,hP1,hb1⟩;have hQ:=hR1.out w1 A2 A3 A4 A5 A10 A11 A12 hP1 hb1)|(go_at_call 14;refine hQ.mono ?_;rintro e w2 ⟨AE,rfl,hsE,hb2⟩))
 obtain ⟨wb,hwb,hsb,hbb,hcb,-⟩:=ak w2 #[.int .i64 0,.int .i64 0,.int .i64 0] 47
 rw [hwb]
 have f0:=hcb 0
 have f1:=hcb 1
 have f2:=hcb 2
 simp at f0 f1 f2
 have hE3:=aa ((hsE.below aQ hbb).more aQ hbb.size)
 have hB3:=aa (hb2.trans (hbb.mono hb2.size))
 have lf:w2.heap.size<wb.heap.size:=by omega
 clear hcb hbb hsE hb2 hb1 hP1 hQ hR1
 replace hwb:=aa hwb
 replace hsb:=aa hsb
 go_upto_region 3 with (first|(go_at_call 17;refine (hK.out _).mono ?_;rintro e w3 ⟨A2,A3,A4,A5,A10,A11,A12,rfl,hP3,hb3⟩;have hQ:=hR2.out w3 A2 A3 A4 A5 A10 A11 A12 hP3 (hB3.out.trans (hb3.mono hB3.out.size)))|(go_at_call 14;refine hQ.mono ?_;rintro e w4 ⟨rfl,hb4⟩))
 obtain ⟨wc,hwc,hsc,hbc,hcc,-⟩:=ak w4 #[.int .i64 9,.int .i64 1,.int .i64 7] 47
 rw [hwc]
 have g0:=hcc 0
 have g1:=hcc 1
 have g2:=hcc 2
 simp at g0 g1 g2
 have hz3:=hb3.size
 have hz4:=hb4.size
 have hB34:Below wb.heap.size wb wc:=hb3.trans ((hb4.trans (hbc.mono hz4)).mono hz3)
 have lg:w4.heap.size<wc.heap.size:=by omega
 have kk:=ah hB34
 replace f0:=(kk.1 _ 0 lf).trans f0
 replace f1:=(kk.1 _ 1 lf).trans f1
 replace f2:=(kk.1 _ 2 lf).trans f2
 replace lf:=He lf hB34.size
 have hE5:=aa ((hE3.out.below aQ hB34).more aQ hB34.size)
 have hB5:=aa (hB3.out.trans (hB34.mono hB3.out.size))
 clear kk hcc hbc hE3 hB3 hB34 hb3 hb4 hP3 hQ hR2 hK hz3 hz4
 replace hwc:=aa hwc
 replace hsc:=aa hsc
 generalize w2.heap.size=bf at*
 generalize w4.heap.size=bg at*
 go_upto_region 4 with fail
 obtain ⟨wz,hwz⟩:∃ wz:World,wz=(((wc.alloc (.cells #[.int .u64 0,.int .u64 192,.int .u64 0,.int .u64 240] 63)).alloc (.cells #[.int .u64 0,.int .u64 2] 61)).alloc (.cells #[.int .i64 0,.slice (some ⟨wc.heap.size,0,none⟩) 1 1,.int .i64 4,.int .i64 0,.int .i64 0,.slice (some ⟨wc.heap.size+1,0,none⟩) 1 1] 57)):=⟨_,rfl⟩
 have hz:wz.heap.size=wc.heap.size+1+1+1:=by rw [hwz];simp
 have hbz:Below wc.heap.size wc wz:=by
  rw [hwz]
  exact (((Hf _ _).alloc (Hh _) _).alloc (by simp) _).alloc (by simp<;>omega) _
 have bP:bz wz wc.heap.size [.int .u64 0,.int .u64 192,.int .u64 0,.int .u64 240]:=by
  rw [hwz]
  iterate 2 refine bp (by simp<;>omega) ?_
  exact ba (by simp)
 have bQ:bz wz (wc.heap.size+1) [.int .u64 0,.int .u64 2]:=by
  rw [hwz]
  iterate 1 refine bp (by simp<;>omega) ?_
  exact ba (by simp)
 have bE:bz wz (wc.heap.size+1+1) [.int .i64 0,sV wc.heap.size,.int .i64 4,.int .i64 0,.int .i64 0,sV (wc.heap.size+1)]:=by
  rw [hwz]
  exact ba (by simp)
 rw [←hwz]
 clear hwz
 have hSA:=aa (show Calls prog 15 #[.slice AE 1 1,.slice (some ⟨wz.heap.size+1,0,none⟩) 1 1] ((wz.alloc (.cells #[.int .i64 0,.slice (some ⟨wc.heap.size,0,none⟩) 1 1,.int .i64 4,.int .i64 0,.int .i64 0,.slice (some ⟨wc.heap.size+1,0,none⟩) 1 1] 57)).alloc (.cells #[.slice (some ⟨wz.heap.size,0,none⟩) 1 1] 38)) fun e w'=>e=.returned (.bool true)∧Below wz.heap.size wz w' from by
  have hb:Below wz.heap.size wz ((wz.alloc (.cells #[.int .i64 0,.slice (some ⟨wc.heap.size,0,none⟩) 1 1,.int .i64 4,.int .i64 0,.int .i64 0,.slice (some ⟨wc.heap.size+1,0,none⟩) 1 1] 57)).alloc (.cells #[.slice (some ⟨wz.heap.size,0,none⟩) 1 1] 38)):=((Hf _ _).alloc (Hh _) _).alloc (by simp) _
  have hbc:=hbz.trans (hb.mono hbz.size)
  refine (jQ [[E4]] [[E4]] AE (some ⟨wz.heap.size+1,0,none⟩) 1 1 _ ((hE5.out.below aQ hbc).more aQ hbc.size) (ET (p:=wc.heap.size) (q:=wc.heap.size+1) (x:=wz.heap.size) (s:=wz.heap.size+1) ?_ ?_ ?_ ?_ ?_ ?_ ?_ ?_) rfl).mono fun e w' h=>⟨h.1,hb.trans (h.2.mono hb.size)⟩
  ·exact bp (by simp<;>omega) (bp (by omega) bP)
  ·exact bp (by simp<;>omega) (bp (by omega) bQ)
  ·exact bp (by simp) (ba rfl)
  ·exact ba (by simp)
  all_goals (simp<;>omega))
 have x0:wz.cell? ⟨wc.heap.size+1+1,0,none⟩=_:=bE 0 _ rfl
 have x1:wz.cell? ⟨wc.heap.size+1+1,1,none⟩=_:=bE 1 _ rfl
 have x2:wz.cell? ⟨wc.heap.size+1+1,2,none⟩=_:=bE 2 _ rfl
 have x3:wz.cell? ⟨wc.heap.size+1+1,3,none⟩=_:=bE 3 _ rfl
 have x4:wz.cell? ⟨wc.heap.size+1+1,4,none⟩=_:=bE 4 _ rfl
 have x5:wz.cell? ⟨wc.heap.size+1+1,5,none⟩=_:=bE 5 _ rfl
 unfold sV at x1 x5
 have kk:=ah hbz
 replace f0:=(kk.1 _ 0 lf).trans f0
 replace f1:=(kk.1 _ 1 lf).trans f1
 replace f2:=(kk.1 _ 2 lf).trans f2
 replace g0:=(kk.1 _ 0 lg).trans g0
 replace g1:=(kk.1 _ 1 lg).trans g1
 replace g2:=(kk.1 _ 2 lg).trans g2
 replace lf:=He lf hbz.size
 replace lg:=He lg hbz.size
 have hB6:=aa (hB5.out.trans (hbz.mono hB5.out.size))
 have lx:wc.heap.size+1+1<wz.heap.size:=by omega
 have hgg:=aa (fun (W:World) (hW:Below wz.heap.size wz W)=>(⟨((ah hW).1 _ 0 lg).trans g0,((ah hW).1 _ 1 lg).trans g1,((ah hW).1 _ 2 lg).trans g2⟩:W.cell? ⟨bg,0,none⟩=some (.int .i64 9)∧W.cell? ⟨bg,1,none⟩=some (.int .i64 1)∧W.cell? ⟨bg,2,none⟩=some (.int .i64 7)))
 replace hz:=aa hz
 clear hE5 kk hbz bP bQ bE hB5
 go_wp2_with (go_at_call 15;refine hSA.out.mono ?_;rintro e w9 ⟨rfl,hb9⟩;obtain ⟨k0,k1,k2⟩:=hgg.out w9 hb9;have lg9:=He lg hb9.size)
 go_ret
 exact ⟨rfl,hB6.out.trans (hb9.mono hB6.out.size)⟩
end
def lS (l:List ByteArray):Bool:=am (fun i=>aK bj l i&& !aK (fun s=>decide (s∈l.take i)) l i) l.length
theorem DA {l:List ByteArray} {i:Nat} (hi:i<l.length) (h:(bj l[i]&& !decide (l[i]∈l.take i))=false):lS l=false:=by
 by_cases hn:lS l=true
 ·have:=(aF _ _).1 hn i hi
  rw [ag _ hi,ag _ hi] at this
  rw [this] at h
  cases h
 ·simpa using hn
theorem BS {l:List ByteArray} (h:∀ i (hi:i<l.length),(bj l[i]&& !decide (l[i]∈l.take i))=true):lS l=true:=
 (aF _ _).2 fun i hi=>by rw [ag _ hi,ag _ hi];exact h i hi
theorem wE (A:Option Addr) (c:Nat) (l:List ByteArray) (w:World) (h:Sl 1 bZ w w.heap.size A l):
  Calls prog 36 #[.slice A l.length c] w fun e w'=>e=.returned (.bool (lS l))∧Below w.heap.size w w':=by
 have ls:=h.len
 have hS:=aa (fun (W:World) (hW:Below w.heap.size w W)=>(h.below av hW).more av hW.size)
 have hno:=aa (fun i (hi:i<l.length) (hg:(bj l[i]&& !decide (l[i]∈l.take i))=false)=>DA hi hg)
 have hyes:=aa (@BS l)
 generalize lS l=R at hno hyes ⊢
 clear h
 go_enter func36,ntmps36
 go_wp2
 go_loopw [3,4] (fun v3 _ wr=>∃ (i:Nat),v3=.int .i64 (i:Int)∧i≤l.length∧Hid (Below w.heap.size w wr)∧Hid (∀ k (hk:k<l.length),k<i→(bj l[k]&& !decide (l[k]∈l.take k))=true)) (fun v3 _ _=>l.length-(RowKit.intOf v3).toNat)
 case atStart=>exact ⟨0,rfl,Hm _,aa (Hf _ _),aa (fun k _ h=>absurd h (Nat.not_lt_zero _))⟩
 case round=>
  obtain ⟨i,rfl,hi,hb,hinv⟩:=hrel
  by_cases hil:i<l.length
  ·have hiz:(i:Int)<(l.length:Int):=by omega
   have dk:decide ((i:Int)<(l.length:Int))=true:=decide_eq_true hiz
   obtain ⟨b,o,hA,hbb,hc,-⟩:=(hS.out wr hb.out).str hil
   subst hA
   have hIs:=aa (fun W=>jl l[i] W)
   cases hn:bj l[i] with
   |false=>
    rw [hn] at hIs
    have hR:=hno.out i hil (by rw [hn];rfl)
    subst hR
    go_wp2_with (go_at_call 34;refine (hIs.out _).mono ?_;rintro e w5 ⟨rfl,hb5⟩)
    go_ret
    exact ⟨rfl,hb.out.trans (hb5.mono hb.out.size)⟩
   |true=>
    rw [hn] at hIs
    go_upto_region 6 with (go_at_call 34;refine (hIs.out _).mono ?_;rintro e w5 ⟨rfl,hb5⟩)
    have hbw:=aa (hb.out.trans (hb5.mono hb.out.size))
    clear hb hb5 hIs
    go_wp2
    obtain ⟨wo,rfl⟩:∃ wo:World,wo=w5:=⟨_,rfl⟩
    go_loopw [4] (fun v4 wx=>∃ (j:Nat),v4=.int .i64 (j:Int)∧j≤i∧Hid (Below w.heap.size w wx)∧Hid (∀ k (hk:k<l.length),k<j→l[k]≠l[i])) (fun v4 _=>i-(RowKit.intOf v4).toNat)
    case atStart=>exact ⟨0,rfl,Hm _,hbw,aa (fun k _ h=>absurd h (Nat.not_lt_zero _))⟩
    case round=>
     clear hbw
     obtain ⟨j,rfl,hj,hbw,hin⟩:=hrel
     obtain ⟨b1,o1,hA1,hbb1,hc1,-⟩:=(hS.out wr hbw.out).str hil
     injection hA1 with hA1
     injection hA1 with e1 e2 e3
     subst e1 e2
     by_cases hjl:j<i
     ·have hjz:(j:Int)<(i:Int):=by omega
      have dj:decide ((j:Int)<(i:Int))=true:=decide_eq_true hjz
      have hjl2:j<l.length:=by omega
      have hjz2:(j:Int)<(l.length:Int):=by omega
      obtain ⟨b2,o2,hA2,hbb9,hc2,-⟩:=(hS.out wr hbw.out).str hjl2
      injection hA2 with hA2
      injection hA2 with e1 e2 e3
      subst e1 e2
      have hgw:=aE (show Below wr.heap.size wr wr from Hf _ _) (Hh _)
      by_cases he:l[j]=l[i]
      ·have hR:=hno.out i hil (by rw [hn,decide_eq_true (show l[i]∈l.take i from by rw [←he];exact List.mem_take_iff_getElem.2 ⟨j,by omega,rfl⟩)];rfl)
       subst hR
       have heb:=j0 he
       go_wp2_with fail
       refine bV ?_
       repeat (any_goals (first|go_big_quiet_step (fail)|quiet_step (fail)))
       refine wpQuiet_nil ?_
       intro w1 hw1
       replace hw1:=ac hw1
       go_wp2
       go_ret
       exact ⟨rfl,hbw.out.trans (hw1.mono hbw.out.size)⟩
      ·have heb:=mD he
       have hin2:=aa (show ∀ k (hk:k<l.length),k<j+1→l[k]≠l[i] from fun k hk hkj=>by
        by_cases hk2:k=j
        ·subst hk2;exact he
        ·exact hin.out k hk (by omega))
       go_wp2_with fail
       refine bV ?_
       repeat (any_goals (first|go_big_quiet_step (fail)|quiet_step (fail)))
       refine wpQuiet_nil ?_
       intro w1 hw1
       replace hw1:=ac hw1
       go_wp2
       go_roundw
       ·exact ⟨j+1,by go_num,hjl,aa (hbw.out.trans (hw1.mono hbw.out.size)),hin2⟩
       ·simp [RowKit.intOf];omega
     ·obtain rfl:j=i:=by omega
      have dj:decide ((j:Int)<(j:Int))=false:=decide_eq_false (by omega)
      have hfin:=aa (show ∀ k (hk:k<l.length),k<j+1→(bj l[k]&& !decide (l[k]∈l.take k))=true from fun k hk hki=>by
       by_cases hk2:k=j
       ·subst hk2
        rw [hn,decide_eq_false (fun hm=>by
         obtain ⟨m,hm1,hm2⟩:=List.mem_take_iff_getElem.1 hm
         exact hin.out m (by omega) (by omega) hm2)]
        rfl
       ·exact hinv.out k hk (by omega))
      go_wp2
      go_roundw
      ·exact ⟨j+1,by go_num,hil,hbw,hfin⟩
      ·simp [RowKit.intOf];omega
  ·obtain rfl:i=l.length:=by omega
   have dk:decide ((l.length:Int)<(l.length:Int))=false:=decide_eq_false (by omega)
   have hR:=hyes.out (fun k hk=>hinv.out k hk hk)
   subst hR
   go_wp2
   go_ret
   exact ⟨rfl,hb.out⟩
end Go.Proofs.YtiebolhmdhdagaaGreatDoor

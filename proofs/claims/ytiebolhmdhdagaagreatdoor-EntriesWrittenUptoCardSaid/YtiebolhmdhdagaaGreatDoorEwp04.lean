import Derived.Test.YtiebolhmdhdagaaGreatDoorEwp03
set_option linter.all false
set_option maxHeartbeats 1000000
open Go.Proofs.Tryz
namespace Go.Proofs.YtiebolhmdhdagaaGreatDoor
open _root_.Go.RowKit.Below renaming refl→Hf
open _root_.Nat renaming le_refl→Hh, le_trans→Hj, pow_le_pow_right→Ic
open _root_.Go.Calls renaming regrown_of→Hi
open _root_.Bool renaming true_and→Hk, and_eq_true→Hl, eq_iff_iff→Hr
open _root_.List renaming getElem?_eq_getElem→Hn
open _root_.Go.Sort renaming grow→Ht
open _root_.Int renaming eq_ofNat_of_zero_le→Hv, toNat_natCast→HG
open Go.RowKit
def GO (n:Nd):List Value:= [.int .u8 n.op,.int .i64 n.w,.int .i64 n.a,.int .i64 n.b,.int .u64 n.hi,.int .u64 n.lo]
def Ab:CR Nd:=fun _ _ cs n=>cs=GO n∧u8 n.op∧aI n.hi∧aI n.lo
theorem bq:gH Ab:=⟨fun h _=>h,fun h _=>h⟩
def oK:CR oF:=fun w B cs x=>∃ A cap,cs= [.int .u8 x.kind,.int .i64 x.a,.int .i64 x.b,.slice A x.e.length cap,.int .i64 x.to]∧Sl 6 Ab w B A x.e
theorem bG:gH oK:=⟨fun ⟨A,cap,e,h⟩ hk=>⟨A,cap,e,h.keep bq hk⟩,fun ⟨A,cap,e,h⟩ hB=>⟨A,cap,e,h.more bq hB⟩⟩
def mR:CR Pt:=fun _ _ cs x=>cs= [.int .u64 x.vh,.int .u64 x.vl,.int .u64 x.mh,.int .u64 x.ml]∧aI x.vh∧aI x.vl∧aI x.mh∧aI x.ml
theorem aL:gH mR:=⟨fun h _=>h,fun h _=>h⟩
def xm:CR Br:=fun w B cs x=>∃ A cap,cs= [.slice A x.pats.length cap,.int .i64 x.to]∧Sl 4 mR w B A x.pats
theorem cz:gH xm:=⟨fun ⟨A,cap,e,h⟩ hk=>⟨A,cap,e,h.keep aL hk⟩,fun ⟨A,cap,e,h⟩ hB=>⟨A,cap,e,h.more aL hB⟩⟩
def ro:CR (List Nd):=oD 6 Ab
theorem aS:gH ro:=eE bq
def oL:CR lI:=fun w B cs x=>∃ A1 A2 A3 c1 c2 c3,cs= [.slice A1 x.takes.length c1,.slice A2 x.keys.length c2,.slice A3 x.brs.length c3,.int .i64 x.to]∧Sl 1 bd w B A1 x.takes∧Sl 1 ro w B A2 x.keys∧Sl 2 xm w B A3 x.brs∧x.keys.length≤sm
theorem gj:gH oL:=⟨fun ⟨A1,A2,A3,c1,c2,c3,e,h1,h2,h3,h4⟩ hk=>⟨A1,A2,A3,c1,c2,c3,e,h1.keep ai hk,h2.keep aS hk,h3.keep cz hk,h4⟩,fun ⟨A1,A2,A3,c1,c2,c3,e,h1,h2,h3,h4⟩ hB=>⟨A1,A2,A3,c1,c2,c3,e,h1.more ai hB,h2.more aS hB,h3.more cz hB,h4⟩⟩
def Ad:CR qv:=fun w B cs x=>∃ A1 A2 c1 c2,cs= [.slice A1 x.params.length c1,.slice A2 x.body.length c2]∧Sl 1 bd w B A1 x.params∧Sl 5 oK w B A2 x.body
theorem io:gH Ad:=⟨fun ⟨A1,A2,c1,c2,e,h1,h2⟩ hk=>⟨A1,A2,c1,c2,e,h1.keep ai hk,h2.keep bG hk⟩,fun ⟨A1,A2,c1,c2,e,h1,h2⟩ hB=>⟨A1,A2,c1,c2,e,h1.more ai hB,h2.more bG hB⟩⟩
def ke:CR (Int×Int):=fun _ _ cs x=>cs= [.int .u64 x.1,.int .u64 x.2]∧aI x.1∧aI x.2
theorem aw:gH ke:=⟨fun h _=>h,fun h _=>h⟩
def Ct:CR Int:=fun _ _ cs x=>cs= [.int .u8 x]
theorem bX:gH Ct:=⟨fun h _=>h,fun h _=>h⟩
def qz:CR eF:=fun w B cs x=>∃ A1 A2 A3 A4 c1 c2 c3 c4,cs= [.slice A1 x.keys.length c1,.slice A2 x.kinds.length c2,.slice A3 x.acts.length c3,.int .i64 x.run.act,.slice A4 x.run.args.length c4]∧Sl 1 ro w B A1 x.keys∧Sl 1 Ct w B A2 x.kinds∧Sl 1 bd w B A3 x.acts∧Sl 2 ke w B A4 x.run.args∧x.keys.length≤sm∧x.acts.length≤c3
theorem lW:gH qz:=⟨fun ⟨A1,A2,A3,A4,c1,c2,c3,c4,e,h1,h2,h3,h4,h5⟩ hk=>⟨A1,A2,A3,A4,c1,c2,c3,c4,e,h1.keep aS hk,h2.keep bX hk,h3.keep ai hk,h4.keep aw hk,h5⟩,fun ⟨A1,A2,A3,A4,c1,c2,c3,c4,e,h1,h2,h3,h4,h5⟩ hB=>⟨A1,A2,A3,A4,c1,c2,c3,c4,e,h1.more aS hB,h2.more bX hB,h3.more ai hB,h4.more aw hB,h5⟩⟩
structure cJ (w:World) (B:Nat) (A1 A2 A3 A4 A5 A6 A7 A8 A9 A10 A11 A12:Option Addr) (p:Lp):Prop where
 heads:Sl 1 (oD 1 bd) w B A1 p.heads
 metas:Sl 1 bd w B A2 p.metas
 steps:Sl 4 oL w B A3 p.steps
 acts:Sl 2 Ad w B A4 p.acts
 tabs:Sl 5 qz w B A5 p.tabs
 control:Sl 5 oK w B A6 p.control
 emit:Sl 1 bd w B A7 p.emit
 nh:Sl 1 bZ w B A8 p.nh
 nf:Sl 1 (oD 1 bZ) w B A9 p.nf
 nm:Sl 1 bZ w B A10 p.nm
 na:Sl 1 bZ w B A11 p.na
 nt:Sl 1 bZ w B A12 p.nt
theorem cJ.keep {w w':World} {B:Nat} {A1 A2 A3 A4 A5 A6 A7 A8 A9 A10 A11 A12:Option Addr} {p:Lp} (h:cJ w B A1 A2 A3 A4 A5 A6 A7 A8 A9 A10 A11 A12 p) (hk:∀ a:Addr,a.block<B→w'.cell? a=w.cell? a):cJ w' B A1 A2 A3 A4 A5 A6 A7 A8 A9 A10 A11 A12 p:=
 ⟨h.heads.keep (eE ai) hk,h.metas.keep ai hk,h.steps.keep gj hk,h.acts.keep io hk,h.tabs.keep lW hk,h.control.keep bG hk,h.emit.keep ai hk,h.nh.keep av hk,h.nf.keep (eE av) hk,h.nm.keep av hk,h.na.keep av hk,h.nt.keep av hk⟩
theorem cJ.more {w:World} {B B':Nat} {A1 A2 A3 A4 A5 A6 A7 A8 A9 A10 A11 A12:Option Addr} {p:Lp} (h:cJ w B A1 A2 A3 A4 A5 A6 A7 A8 A9 A10 A11 A12 p) (hB:B≤B'):cJ w B' A1 A2 A3 A4 A5 A6 A7 A8 A9 A10 A11 A12 p:=
 ⟨h.heads.more (eE ai) hB,h.metas.more ai hB,h.steps.more gj hB,h.acts.more io hB,h.tabs.more lW hB,h.control.more bG hB,h.emit.more ai hB,h.nh.more av hB,h.nf.more (eE av) hB,h.nm.more av hB,h.na.more av hB,h.nt.more av hB⟩
theorem cJ.below {w w':World} {B:Nat} {A1 A2 A3 A4 A5 A6 A7 A8 A9 A10 A11 A12:Option Addr} {p:Lp} (h:cJ w B A1 A2 A3 A4 A5 A6 A7 A8 A9 A10 A11 A12 p) (hb:Below B w w'):cJ w' B A1 A2 A3 A4 A5 A6 A7 A8 A9 A10 A11 A12 p:=h.keep fun _ hp=>hb.cell hp
theorem Sl.nth_no {α:Type} {l:List α} {i:Int} (h:¬(0≤i∧i<l.length)):eG l i=none:=by
 have:=Eb l i
 have e:dJ l.length i=false:=by
  unfold dJ
  by_cases h0:0≤i
  ·simp only [h0,decide_true,Hk,decide_eq_false_iff_not];omega
  ·simp [h0]
 rw [e] at this
 exact Option.isNone_iff_eq_none.1 (by rw [←Option.not_isSome,this];rfl)
theorem iQ {α:Type} {l:List α} (k:Nat) (h:k<l.length):eG l (k:Int)=some l[k]:=by
 unfold eG
 rw [if_pos (by omega),HG,Hn h]
theorem gk {i:Int} {n:Nat} (h0:¬i<0) (h1:¬(n:Int)≤i):∃ k:Nat,i=k∧k<n:=by
 obtain ⟨k,rfl⟩:=Hv (show 0≤i by omega)
 exact ⟨k,rfl,by omega⟩
theorem qA {l:List Int} {i:Int} (h:¬(0≤i∧i<l.length)):rn l i=0:=by unfold rn;rw [Sl.nth_no h];rfl
theorem qB {l:List Int} {k:Nat} (h:k<l.length):rn l (k:Int)=l[k]:=by unfold rn;rw [iQ k h];rfl
theorem cj {n:Nat} {i:Int} (h:¬(0≤i∧i<n)):dJ n i=false:=by
 unfold dJ
 by_cases h0:0≤i
 ·simp only [h0,decide_true,Hk,decide_eq_false_iff_not];omega
 ·simp [h0]
theorem eY {k n:Nat} (h:k<n):dJ n (k:Int)=true:=by unfold dJ;simp [h]
theorem jq (n:Int) (w:World):Calls prog 96 #[.int .i64 n] w fun e w'=>e=.returned (.bool (aj n))∧w=w':=by
 go_enter func96,ntmps96
 by_cases h1:1≤n
 ·by_cases h2:n≤128
  ·go_wp2
   go_ret
   exact ⟨ad (by simp [aj,h1,h2]),rfl⟩
  ·go_wp2
   go_ret
   exact ⟨ad (by simp [aj,h2]),rfl⟩
 ·go_wp2
  go_ret
  exact ⟨ad (by simp [aj];omega),rfl⟩
theorem qC (n:Int) (w:World):Calls prog 121 #[.int .i64 n] w fun e w'=>e=.returned (.bool (aj n))∧w=w':=by
 go_enter func121,ntmps121
 by_cases h1:0<n
 focus by_cases h2:n<129
 all_goals
  go_wp2
  go_ret
  exact ⟨ad (by simp [aj];omega),rfl⟩
theorem jr (A:Option Addr) (cap:Nat) (xs:List Int) (i:Int) (w:World) (h:Sl 1 bd w w.heap.size A xs):
  Calls prog 155 #[.slice A xs.length cap,.int .i64 i] w fun e w'=>e=.returned (.tuple #[.int .i64 (rn xs i),.bool (dJ xs.length i)])∧w=w':=by
 have hl:=h.len
 go_enter func155,ntmps155
 by_cases h0:i<0
 rotate_right
 focus
  by_cases h1:(xs.length:Int)≤i
  rotate_right
  focus
   obtain ⟨k,rfl,hk⟩:=gk h0 h1
   have e1:=aa (qB hk)
   have e2:=aa (eY hk)
   obtain ⟨b,o,rfl,hb,hc⟩:=h.int hk
   have hki:(k:Int)<(xs.length:Int):=by omega
   go_wp2
   refine bodyPost_ret (results_tmp2 rfl _ _ _) rfl ?_
   exact ⟨by rw [e1.out,e2.out]<;>rfl,rfl⟩
 all_goals
  have e1:=aa (qA (l:=xs) (i:=i) (by omega))
  have e2:=aa (cj (n:=xs.length) (i:=i) (by omega))
  go_wp2
  refine bodyPost_ret (results_tmp2 rfl _ _ _) rfl ?_
  exact ⟨by rw [e1.out,e2.out]<;>rfl,rfl⟩
theorem lX (A:Option Addr) (cap:Nat) (xs:List (List Int)) (i:Int) (w:World) (h:Sl 1 (oD 1 bd) w w.heap.size A xs):
  Calls prog 154 #[.slice A xs.length cap,.int .i64 i] w fun e w'=>∃ A' c',e=.returned (.tuple #[.slice A' ((eG xs i).getD []).length c',.bool (dJ xs.length i)])∧Sl 1 bd w w.heap.size A' ((eG xs i).getD [])∧w=w':=by
 have hl:=h.len
 go_enter func154,ntmps154
 by_cases h0:i<0
 ·have e1:=aa (Sl.nth_no (l:=xs) (i:=i) (by omega))
  have e2:=aa (cj (n:=xs.length) (i:=i) (by omega))
  go_wp2
  refine bodyPost_ret (results_tmp2 rfl _ _ _) rfl ?_
  exact ⟨none,0,by rw [e1.out,e2.out]<;>rfl,by rw [e1.out];exact Sl.nil_,rfl⟩
 ·by_cases h1:(xs.length:Int)≤i
  ·have e1:=aa (Sl.nth_no (l:=xs) (i:=i) (by omega))
   have e2:=aa (cj (n:=xs.length) (i:=i) (by omega))
   go_wp2
   refine bodyPost_ret (results_tmp2 rfl _ _ _) rfl ?_
   exact ⟨none,⟨0,by rw [e1.out,e2.out]<;>rfl⟩,by rw [e1.out];exact Sl.nil_,rfl⟩
  ·obtain ⟨k,rfl,hk⟩:=gk h0 h1
   have e1:=aa (iQ k hk)
   have e2:=aa (eY hk)
   obtain ⟨b,o,A',c',rfl,hb,hc,hs⟩:=h.ints hk
   have hki:(k:Int)<(xs.length:Int):=by omega
   clear h
   replace hs:=aa hs
   go_wp2
   refine bodyPost_ret (results_tmp2 rfl _ _ _) rfl ?_
   exact ⟨A',⟨c',by rw [e1.out,e2.out]<;>rfl⟩,by rw [e1.out];exact hs.out,rfl⟩
theorem qD (A:Option Addr) (cap:Nat) (xs:List qv) (i:Int) (w:World) (h:Sl 2 Ad w w.heap.size A xs):
  Calls prog 112 #[.slice A xs.length cap,.int .i64 i] w fun e w'=>∃ A1 c1 A2 n2 c2,e=.returned (.tuple #[.agg #[.slice A1 (((eG xs i).map qv.params).getD []).length c1,.slice A2 n2 c2],.bool (dJ xs.length i)])∧Sl 1 bd w w.heap.size A1 (((eG xs i).map qv.params).getD [])∧Below w.heap.size w w':=by
 have hl:=h.len
 go_enter func112,ntmps112
 by_cases h0:i<0
 ·have e1:=aa (Sl.nth_no (l:=xs) (i:=i) (by omega))
  have e2:=aa (cj (n:=xs.length) (i:=i) (by omega))
  go_wp2
  refine bodyPost_ret (v:=.tuple #[.agg #[.slice none 0 0,.slice none 0 0],.bool false]) (by simp [results,results112,go_sem]) rfl ?_
  exact ⟨none,0,none,0,0,by rw [e1.out,e2.out]<;>rfl,by rw [e1.out];exact Sl.nil_,(Hf _ _).alloc (Hh _) _⟩
 ·by_cases h1:(xs.length:Int)≤i
  ·have e1:=aa (Sl.nth_no (l:=xs) (i:=i) (by omega))
   have e2:=aa (cj (n:=xs.length) (i:=i) (by omega))
   go_wp2
   refine bodyPost_ret (v:=.tuple #[.agg #[.slice none 0 0,.slice none 0 0],.bool false]) (by simp [results,results112,go_sem]) rfl ?_
   exact ⟨none,⟨0,none,0,0,by rw [e1.out,e2.out]<;>rfl⟩,by rw [e1.out];exact Sl.nil_,(Hf _ _).alloc (Hh _) _⟩
  ·obtain ⟨k,rfl,hk⟩:=gk h0 h1
   have e1:=aa (iQ k hk)
   have e2:=aa (eY hk)
   obtain ⟨b,o,ecs,rfl,hb,hn,hcell,A1,A2,c1,c2,rfl,hs1,hs2⟩:=h.2 k _ (Hn hk)
   have x0:w.cell? ⟨b,o+k*2,none⟩=some (.slice A1 xs[k].params.length c1):=hcell 0 _ rfl
   have x1:w.cell? ⟨b,o+k*2+1,none⟩=some (.slice A2 xs[k].body.length c2):=hcell 1 _ rfl
   have hki:(k:Int)<(xs.length:Int):=by omega
   clear h hs2 hcell hn
   replace hs1:=aa hs1
   go_wp2
   refine bodyPost_ret (v:=.tuple #[.agg #[.slice A1 xs[k].params.length c1,.slice A2 xs[k].body.length c2],.bool true]) (by simp [results,results112,go_sem]) rfl ?_
   exact ⟨A1,⟨c1,A2,_,c2,by rw [e1.out,e2.out]<;>rfl⟩,by rw [e1.out];exact hs1.out,(Hf _ _).alloc (Hh _) _⟩
theorem qE (A:Option Addr) (cap:Nat) (xs:List Int) (i:Int) (w:World) (h:Sl 1 bd w w.heap.size A xs):
  Calls prog 167 #[.slice A xs.length cap,.int .i64 i] w fun e w'=>e=.returned (.int .i64 (rn xs i))∧w=w':=by
 have hl:=h.len
 go_enter func167,ntmps167
 by_cases h0:i<0
 rotate_right
 focus
  by_cases h1:(xs.length:Int)≤i
  rotate_right
  focus
   obtain ⟨k,rfl,hk⟩:=gk h0 h1
   have e1:=aa (qB hk)
   obtain ⟨b,o,rfl,hb,hc⟩:=h.int hk
   have hki:(k:Int)<(xs.length:Int):=by omega
   go_wp2
   go_ret
   exact ⟨aq e1.out.symm,rfl⟩
 all_goals
  have e1:=aa (qA (l:=xs) (i:=i) (by omega))
  go_wp2
  go_ret
  exact ⟨aq e1.out.symm,rfl⟩
theorem CL (a b z mh ml:Int) (w:World) (hCt:∀ W,Calls prog 158 #[.agg #[.int .u64 a,.int .u64 b],.int .i64 z] W fun e w'=>e=.returned (.agg #[.int .u64 mh,.int .u64 ml])∧Below W.heap.size W w'):Calls prog 115 #[.agg #[.int .u64 a,.int .u64 b],.int .i64 z] w fun e w'=>e=.returned (.bool (mh==a&&ml==b))∧Below w.heap.size w w':=by
 obtain ⟨wa,hwa,hsa,hba,hca,-⟩:=ak w #[.int .u64 a,.int .u64 b] 61
 have x0:wa.cell? ⟨w.heap.size,0,none⟩=some (.int .u64 a):=hca 0
 have x1:wa.cell? ⟨w.heap.size,1,none⟩=some (.int .u64 b):=hca 1
 have hk2:w.heap.size<wa.heap.size:=by omega
 have hM:∀ d os,Hid (Calls prog 158 #[.agg #[.int .u64 a,.int .u64 b],.int .i64 z] (Ht (redrawn wa d) os) _):=fun d os=>aa (hCt _)
 have hg:=aE (show Below wa.heap.size wa wa from Hf _ _) (Hh _)
 replace hba:=aa hba
 replace hsa:=aa hsa
 clear hca
 have hfin:=aa (fun w1 (h:Below wa.heap.size wa w1)=>hba.out.trans (h.mono (show w.heap.size≤wa.heap.size by omega)))
 clear hCt
 by_cases e1:mh=a
 focus
  subst e1
  by_cases e2:ml=b
  focus
   subst e2
   go_enter func115,ntmps115
   go_wp2_with fail
   refine bV ?_
   repeat (any_goals (first|go_big_quiet_step (first|(go_at_call 158;with_reducible exact Hi (hM _ _).out)|fail)|quiet_step (first|(go_at_call 158;with_reducible exact Hi (hM _ _).out)|fail)))
   refine wpQuiet_nil ?_
   intro w1 hw1
   replace hw1:=ac hw1
   go_wp2
   go_ret
   exact ⟨ad (by simp),hfin.out _ hw1⟩
  rotate_right
  have hv:=aa (beq_eq_false_iff_ne.2 e2)
 rotate_right
 have hv:=aa (beq_eq_false_iff_ne.2 e1)
 all_goals
  go_enter func115,ntmps115
  go_wp2_with fail
  refine bV ?_
  repeat (any_goals (first|go_big_quiet_step (first|(go_at_call 158;with_reducible exact Hi (hM _ _).out)|fail)|quiet_step (first|(go_at_call 158;with_reducible exact Hi (hM _ _).out)|fail)))
  refine wpQuiet_nil ?_
  intro w1 hw1
  replace hw1:=ac hw1
  go_wp2
  go_ret
  exact ⟨ad (by rw [hv.out];simp),hfin.out _ hw1⟩
theorem dF (x:Int) (m:Nat) (h0:0≤x) (h1:x<18446744073709551616) (hm:m≤64):aJ x (2 ^ m-1)=x % 2 ^ m:=by
 obtain ⟨X,rfl⟩:=Hv h0
 have hp:0<2 ^ m:=Nat.two_pow_pos m
 have hle:2 ^ m≤2 ^ 64:=Ic (by omega) hm
 have e:((2:Int) ^ m-1)=((2 ^ m-1:Nat):Int):=by rw [Int.ofNat_sub hp];simp
 rw [aJ,e,u64_and_nat X (2 ^ m-1) (by omega) (by omega),Nat.and_two_pow_sub_one_eq_mod]
 simp
theorem vN (l:Lt) (n:Nat) (hl:mG l) (h1:1≤n) (h2:n≤128):(aJ l.2.1 (aX n)==l.2.1&&aJ l.2.2 (aP n)==l.2.2)=kP (n:Int) l:=by
 obtain ⟨-,⟨a0,a1⟩,b0,b1⟩:=hl
 unfold kP rD aX aP
 rw [HG]
 rw [Hr]
 simp only [Hl,beq_iff_eq,decide_eq_true_eq]
 by_cases h:n≤64
 ·rw [if_pos h,if_pos h,dF _ n b0 b1 h]
  have e0:aJ l.2.1 0=0:=by have:=dF l.2.1 0 a0 a1 (by omega);simpa using this
  rw [e0]
  have hp:(0:Int)<2 ^ n:=Int.pow_pos (by omega)
  have hle:(2:Int) ^ n≤18446744073709551616:=by
   have h3:(2:Nat) ^ n≤18446744073709551616:=Hj (Ic (by omega) h) (by decide)
   have h4:=Int.ofNat_le.2 h3
   rw [Int.natCast_pow] at h4
   exact h4
  constructor
  ·rintro ⟨h3,h4⟩
   have:=Int.emod_lt_of_pos l.2.2 hp
   omega
  ·intro h3
   have:l.2.1=0:=by omega
   exact ⟨this.symm,Int.emod_eq_of_lt b0 (by omega)⟩
 ·rw [if_neg h,if_neg h,dF _ (n-64) a0 a1 (by omega)]
  have e1:aJ l.2.2 18446744073709551615=l.2.2:=by
   have:=dF l.2.2 64 b0 b1 (by omega)
   rw [Int.emod_eq_of_lt b0 (by simpa using b1)] at this
   simpa using this
  rw [e1]
  have hp:(0:Int)<2 ^ (n-64):=Int.pow_pos (by omega)
  have hs:(2:Int) ^ n=2 ^ (n-64)*18446744073709551616:=by
   have:(2:Int) ^ (n-64+64)=2 ^ (n-64)*2 ^ 64:=Int.pow_add 2 (n-64) 64
   rw [show n-64+64=n by omega] at this
   simpa using this
  rw [hs]
  generalize (2:Int) ^ (n-64)=q at*
  constructor
  ·rintro ⟨h3,-⟩
   have:=Int.emod_lt_of_pos l.2.1 hp
   have h5:l.2.1+1≤q:=by omega
   have:=Int.mul_le_mul_of_nonneg_right h5 (show (0:Int)≤18446744073709551616 by omega)
   omega
  ·intro h3
   refine ⟨Int.emod_eq_of_lt a0 ?_,rfl⟩
   rcases Int.lt_or_le l.2.1 q with h5|h5
   ·exact h5
   ·have:=Int.mul_le_mul_of_nonneg_right h5 (show (0:Int)≤18446744073709551616 by omega)
    omega
end Go.Proofs.YtiebolhmdhdagaaGreatDoor

import Derived.Test.YtbbdhknagofghaaGreatTcp05
set_option linter.all false
set_option maxHeartbeats 4000000
set_option maxRecDepth 100000
open Go.Proofs.Tryz
namespace Go.Proofs.YtbbdhknagofghaaGreat
open _root_.Nat renaming lt_of_lt_of_le→Bg, le_trans→Bj, le_refl→Bm, zero_le→Bo
open _root_.Go.Calls renaming regrown_of→Bh
open _root_.Go.RowKit.Below renaming refl→Bi
open _root_.List renaming getElem?_eq_getElem→Bk, getElem_mem→Bv, take_zero→Bz, take_of_length_le→BB, take_succ_cons→BE, take_succ_eq_append_getElem→BO, drop_succ_cons→BY
open _root_.Go.Sort renaming grow→Bl
open _root_.Bool renaming and_eq_true→Bn
open _root_.Array renaming getElem?_eq_some_iff→Bs
open _root_.Int renaming toNat_natCast→BM, eq_ofNat_of_zero_le→BR
open Go.RowKit
theorem oq (k:Int) (w:World) (h0:0≤k) (h1:k≤128):Calls prog 232 #[.int .i64 k] w fun e w'=>e=.returned (.int .u64 k)∧w=w':=by
 have e1:min k 128=k:=by omega
 have e2:max 0 k=k:=by omega
 go_enter func232,ntmps232
 go_wp2
 go_ret
 exact ⟨ag (by simp [e1,e2]),rfl⟩
theorem xe:∀ k:Fin 64,(18446744073709551615 / 2 ^ k.val:Int)=2 ^ (64-k.val)-1∧bits .or .u64 (18446744073709551615 / 2 ^ k.val:Int) (IntKind.u64.wrap (18446744073709551615*2 ^ (64-k.val)))=18446744073709551615:=by decide+kernel
theorem uM:∀ k:Fin 64,(18446744073709551615 / 2 ^ k.val:Int)=2 ^ (64-k.val)-1:=by decide+kernel
theorem yJ (k:Nat) (w:World) (h1:k<64):Calls prog 226 #[.agg #[.int .u64 18446744073709551615,.int .u64 18446744073709551615],.int .i64 (k:Int)] w fun e w'=>e=.returned (.agg #[.int .u64 ((2:Int) ^ (64-k)-1),.int .u64 18446744073709551615])∧Below w.heap.size w w':=by
 obtain ⟨q1,q2⟩:=xe ⟨k,h1⟩
 replace q1:=aa q1
 replace q2:=aa q2
 go_enter func226,ntmps226
 go_wp2_with (go_at_call 232;refine (oq _ _ (by omega) (by omega)).mono ?_;rintro e w' ⟨rfl,rfl⟩)
 refine bodyPost_ret (v:=.agg #[.int .u64 (18446744073709551615 / 2 ^ k),.int .u64 (bits .or .u64 (18446744073709551615 / 2 ^ k:Int) (IntKind.u64.wrap (18446744073709551615*2 ^ (64-k))))]) (by simp [results,results226,go_sem]) rfl ⟨?_,((Bi _ _).alloc (Bm _) _).alloc (by simp) _⟩
 rw [q2.out,q1.out]
theorem xf (k:Nat) (w:World) (h1:k<64):Calls prog 226 #[.agg #[.int .u64 18446744073709551615,.int .u64 18446744073709551615],.int .i64 ((k:Int)+64)] w fun e w'=>e=.returned (.agg #[.int .u64 0,.int .u64 ((2:Int) ^ (64-k)-1)])∧Below w.heap.size w w':=by
 have q1:=aa (uM ⟨k,h1⟩)
 go_enter func226,ntmps226
 go_wp2_with (go_at_call 232;refine (oq _ _ (by omega) (by omega)).mono ?_;rintro e w' ⟨rfl,rfl⟩)
 refine bodyPost_ret (v:=.agg #[.int .u64 0,.int .u64 (18446744073709551615 / 2 ^ k)]) (by simp [results,results226,go_sem]) rfl ⟨?_,((Bi _ _).alloc (Bm _) _).alloc (by simp) _⟩
 rw [q1.out]
def fk (n:Nat):Int:=if n≤64 then 0 else 2 ^ (n-64)-1
def fm (n:Nat):Int:=if n≤64 then 2 ^ n-1 else 18446744073709551615
theorem xg (n:Nat) (w:World) (h1:1≤n) (h2:n≤128):Calls prog 209 #[.int .i64 (n:Int)] w fun e w'=>e=.returned (.agg #[.int .u64 (fk n),.int .u64 (fm n)])∧Below w.heap.size w w':=by
 have e1:min (n:Int) 128=n:=by omega
 have e2:¬(n:Int)<1:=by omega
 obtain ⟨wa,hwa,hsa,hba,hca,hfa⟩:=al w #[.int .u64 0,.int .u64 0] 40
 obtain ⟨wb,hwb,hsb,hbb,hcb,-⟩:=al wa #[.int .u64 18446744073709551615,.int .u64 18446744073709551615] 40
 have hw:=hba.trans (hbb.mono (by omega))
 have x0:wb.cell? ⟨w.heap.size,0,none⟩=some (.int .u64 0):=(bx hbb w.heap.size 0 (by omega)).trans (hca 0)
 have x1:wb.cell? ⟨w.heap.size,1,none⟩=some (.int .u64 0):=(bx hbb w.heap.size 1 (by omega)).trans (hca 1)
 have f0:∀ i,wb.frozen? ⟨w.heap.size,i,none⟩=false:=fun i=>(ss hbb w.heap.size i (by omega)).trans (hfa i)
 simp only [hsa] at hcb
 have y0:wb.cell? ⟨w.heap.size+1,0,none⟩=some (.int .u64 18446744073709551615):=hcb 0
 have y1:wb.cell? ⟨w.heap.size+1,1,none⟩=some (.int .u64 18446744073709551615):=hcb 1
 have hz:w.heap.size<wb.heap.size:=by omega
 replace hw:=aa hw
 replace hsb:=aa hsb
 clear hca hcb hba hbb hfa
 by_cases h:n≤64
 ·have hk:=aa (xf (64-n) wb (by omega))
  have ek:(128:Int)-(n:Int)=((64-n:Nat):Int)+64:=by omega
  have hv:=aa (show fk n=0∧fm n=2 ^ (64-(64-n))-1 from by simp only [fk,fm,if_pos h];rw [show 64-(64-n)=n by omega];simp)
  go_enter func209,ntmps209
  go_wp2_with fail
  refine hk.out.mono ?_
  rintro e w1 ⟨rfl,hb⟩
  obtain ⟨hc,hf,hz1⟩:=cM hb
  replace hb:=aa hb
  go_wp2
  refine bodyPost_ret (v:=.agg #[.int .u64 0,.int .u64 ((2:Int) ^ (64-(64-n))-1)]) (by simp [results,results209,go_sem,hc,hz,x0,x1]) rfl ⟨by rw [hv.out.1,hv.out.2],?_⟩
  exact ((hw.out.trans (hb.out.mono (by omega))).setCell (by simp) _).setCell (by simp) _
 ·have hk:=aa (yJ (128-n) wb (by omega))
  have ek:(128:Int)-(n:Int)=((128-n:Nat):Int):=by omega
  have hv:=aa (show fk n=2 ^ (64-(128-n))-1∧fm n=18446744073709551615 from by simp only [fk,fm,if_neg h];rw [show 64-(128-n)=n-64 by omega];simp)
  go_enter func209,ntmps209
  go_wp2_with fail
  refine hk.out.mono ?_
  rintro e w1 ⟨rfl,hb⟩
  obtain ⟨hc,hf,hz1⟩:=cM hb
  replace hb:=aa hb
  go_wp2
  refine bodyPost_ret (v:=.agg #[.int .u64 ((2:Int) ^ (64-(128-n))-1),.int .u64 18446744073709551615]) (by simp [results,results209,go_sem,hc,hz,x0,x1]) rfl ⟨by rw [hv.out.1,hv.out.2],?_⟩
  exact ((hw.out.trans (hb.out.mono (by omega))).setCell (by simp) _).setCell (by simp) _
def dV (a b:Int):Int:=bits .and .u64 a b
theorem qv (a b:Int) (w:World):Calls prog 225 #[.int .u64 a,.int .u64 b] w fun e w'=>e=.returned (.int .u64 (dV a b))∧w'=w:=by
 go_enter func225,ntmps225
 go_wp2
 go_ret
 exact ⟨rfl,rfl⟩
theorem qw:∀ args w,(callFunc 225 args).run prog w=.ok (.enter 225 args) w:=enters_of func225 (by kernel_rfl) rfl
theorem xh (a b c d:Int) (w:World):Calls prog 224 #[.agg #[.int .u64 a,.int .u64 b],.agg #[.int .u64 c,.int .u64 d],.func (.func 225) #[] #[]] w fun e w'=>e=.returned (.agg #[.int .u64 (dV a c),.int .u64 (dV b d)])∧Below w.heap.size w w':=by
 have eg:=qw
 go_enter func224,ntmps224
 go_wp2_with fail
 refine wp_region_still_tail 13 (by kernel_rfl) (by kernel_rfl) ?_
 simp only [BE,Bz,BY,List.drop_zero]
 change wpStill _ _ (World.drew _) _ _ _
 iterate 5 still_step
 still_call (qv _ _ _)
 iterate 5 still_step
 still_call (qv _ _ _)
 still_step
 refine wpStill_nil ?_
 change wpList _ _ _ _ _ (World.drew _)
 have hb3:Below w.heap.size w (((w.alloc (.cells #[.int .u64 a,.int .u64 b] 40)).alloc (.cells #[.int .u64 c,.int .u64 d] 40)).alloc (.cells #[.int .u64 0,.int .u64 0] 40)).drew:=((((Bi _ _).alloc (Bm _) _).alloc (by simp) _).alloc (by simp;omega) _).drew
 have n0:(((w.alloc (.cells #[.int .u64 a,.int .u64 b] 40)).alloc (.cells #[.int .u64 c,.int .u64 d] 40)).alloc (.cells #[.int .u64 0,.int .u64 0] 40)).drew.heap[w.heap.size+1+1]? =some (.cells #[.int .u64 0,.int .u64 0] 40):=by
  have:=heap_alloc_new ((w.alloc (.cells #[.int .u64 a,.int .u64 b] 40)).alloc (.cells #[.int .u64 c,.int .u64 d] 40)) (.cells #[.int .u64 0,.int .u64 0] 40)
  rw [World.size_alloc,World.size_alloc] at this
  exact this
 generalize hwd:(((w.alloc (.cells #[.int .u64 a,.int .u64 b] 40)).alloc (.cells #[.int .u64 c,.int .u64 d] 40)).alloc (.cells #[.int .u64 0,.int .u64 0] 40)).drew=wd at hb3 n0
 clear hwd
 have m0:wd.cell? ⟨w.heap.size+1+1,0,none⟩=some (.int .u64 0):=by simp [World.cell?,n0]
 have m1:wd.cell? ⟨w.heap.size+1+1,1,none⟩=some (.int .u64 0):=by simp [World.cell?,n0]
 have m2:wd.frozen? ⟨w.heap.size+1+1,0,none⟩=false:=by simp [World.frozen?,n0]
 have m3:wd.frozen? ⟨w.heap.size+1+1,1,none⟩=false:=by simp [World.frozen?,n0]
 have m4:w.heap.size+1+1<wd.heap.size:=(Bs.1 n0).1
 replace hb3:=aa hb3
 replace n0:=aa n0
 go_wp2
 refine bodyPost_ret (v:=.agg #[.int .u64 (dV a c),.int .u64 (dV b d)]) (by simp [results,results224,go_sem,m0,m1,m4]) rfl ⟨rfl,(hb3.out.setCell (by simp;omega) _).setCell (by simp;omega) _⟩
theorem yK (a b c d:Int) (w:World):Calls prog 208 #[.agg #[.int .u64 a,.int .u64 b],.agg #[.int .u64 c,.int .u64 d]] w fun e w'=>e=.returned (.agg #[.int .u64 (dV a c),.int .u64 (dV b d)])∧Below w.heap.size w w':=by
 obtain ⟨wa,hwa,hsa,hba,hca,-⟩:=al w #[.int .u64 a,.int .u64 b] 40
 obtain ⟨wb,hwb,hsb,hbb,hcb,-⟩:=al wa #[.int .u64 c,.int .u64 d] 40
 obtain ⟨wc,hwc,hsc,hbc,hcc,hfc⟩:=al wb #[.int .u64 0,.int .u64 0] 40
 have hw:=hba.trans ((hbb.mono (by omega)).trans (hbc.mono (by omega)))
 have x0:wc.cell? ⟨w.heap.size,0,none⟩=some (.int .u64 a):=(bx hbc w.heap.size 0 (by omega)).trans ((bx hbb w.heap.size 0 (by omega)).trans (hca 0))
 have x1:wc.cell? ⟨w.heap.size,1,none⟩=some (.int .u64 b):=(bx hbc w.heap.size 1 (by omega)).trans ((bx hbb w.heap.size 1 (by omega)).trans (hca 1))
 simp only [hsa] at hcb
 have y0:wc.cell? ⟨w.heap.size+1,0,none⟩=some (.int .u64 c):=(bx hbc (w.heap.size+1) 0 (by omega)).trans (hcb 0)
 have y1:wc.cell? ⟨w.heap.size+1,1,none⟩=some (.int .u64 d):=(bx hbc (w.heap.size+1) 1 (by omega)).trans (hcb 1)
 simp only [hsb,hsa] at hcc hfc
 have z0:wc.cell? ⟨w.heap.size+1+1,0,none⟩=some (.int .u64 0):=hcc 0
 have z1:wc.cell? ⟨w.heap.size+1+1,1,none⟩=some (.int .u64 0):=hcc 1
 have hk3:w.heap.size+1+1<wc.heap.size:=by omega
 have hB:=aa (xh a b c d wc)
 replace hw:=aa hw
 replace hsc:=aa hsc
 clear hca hcb hcc hba hbb hbc
 go_enter func208,ntmps208
 go_wp2_with fail
 refine hB.out.mono ?_
 rintro e w1 ⟨rfl,hb⟩
 obtain ⟨hc,hf,hz1⟩:=cM hb
 replace hb:=aa hb
 have m0:w1.cell? ⟨w.heap.size+1+1,0,none⟩=some (.int .u64 0):=(hc _ _ hk3).trans z0
 have m1:w1.cell? ⟨w.heap.size+1+1,1,none⟩=some (.int .u64 0):=(hc _ _ hk3).trans z1
 have m2:w1.frozen? ⟨w.heap.size+1+1,0,none⟩=false:=(hf _ _ hk3).trans (hfc 0)
 have m3:w1.frozen? ⟨w.heap.size+1+1,1,none⟩=false:=(hf _ _ hk3).trans (hfc 1)
 have m4:w.heap.size+1+1<w1.heap.size:=by omega
 clear hc hf hfc
 go_wp2
 refine bodyPost_ret (v:=.agg #[.int .u64 (dV a c),.int .u64 (dV b d)]) (by simp [results,results208,go_sem,m0,m1,m4]) rfl ⟨rfl,((hw.out.trans (hb.out.mono (by omega))).setCell (by simp;omega) _).setCell (by simp;omega) _⟩
theorem yL (a b:Int) (n:Nat) (w:World) (h1:1≤n) (h2:n≤128):Calls prog 161 #[.agg #[.int .u64 a,.int .u64 b],.int .i64 (n:Int)] w fun e w'=>e=.returned (.agg #[.int .u64 (dV a (fk n)),.int .u64 (dV b (fm n))])∧Below w.heap.size w w':=by
 obtain ⟨wa,hwa,hsa,hba,hca,-⟩:=al w #[.int .u64 a,.int .u64 b] 40
 obtain ⟨wc,hwc,hsc,hbc,hcc,hfc⟩:=al wa #[.int .u64 0,.int .u64 0] 40
 have hw:=hba.trans (hbc.mono (by omega))
 have x0:wc.cell? ⟨w.heap.size,0,none⟩=some (.int .u64 a):=(bx hbc w.heap.size 0 (by omega)).trans (hca 0)
 have x1:wc.cell? ⟨w.heap.size,1,none⟩=some (.int .u64 b):=(bx hbc w.heap.size 1 (by omega)).trans (hca 1)
 simp only [hsa] at hcc hfc
 have z0:wc.cell? ⟨w.heap.size+1,0,none⟩=some (.int .u64 0):=hcc 0
 have z1:wc.cell? ⟨w.heap.size+1,1,none⟩=some (.int .u64 0):=hcc 1
 have hk2:w.heap.size<wc.heap.size:=by omega
 have hk3:w.heap.size+1<wc.heap.size:=by omega
 have hM:=aa (fun W=>xg n W h1 h2)
 have hA:=aa (fun W=>yK a b (fk n) (fm n) W)
 replace hw:=aa hw
 replace hsc:=aa hsc
 clear hca hcc hba hbc
 generalize fk n=mh at*
 generalize fm n=ml at*
 go_enter func161,ntmps161
 go_wp2_with fail
 go_region_with (first|(go_at_call 209;refine (hM.out _).mono ?_;rintro e w1 ⟨rfl,hb⟩;have u0:w1.cell? ⟨w.heap.size,0,none⟩=some (.int .u64 a):=(hb.cell (p:=⟨w.heap.size,0,none⟩) hk2).trans x0;have u1:w1.cell? ⟨w.heap.size,1,none⟩=some (.int .u64 b):=(hb.cell (p:=⟨w.heap.size,1,none⟩) hk2).trans x1;have v0:w1.cell? ⟨w.heap.size+1,0,none⟩=some (.int .u64 0):=(hb.cell (p:=⟨w.heap.size+1,0,none⟩) hk3).trans z0;have v1:w1.cell? ⟨w.heap.size+1,1,none⟩=some (.int .u64 0):=(hb.cell (p:=⟨w.heap.size+1,1,none⟩) hk3).trans z1;have t0:w1.frozen? ⟨w.heap.size+1,0,none⟩=false:=(hb.frozen (p:=⟨w.heap.size+1,0,none⟩) hk3).trans (hfc 0);have t1:w1.frozen? ⟨w.heap.size+1,1,none⟩=false:=(hb.frozen (p:=⟨w.heap.size+1,1,none⟩) hk3).trans (hfc 1);have k1:w.heap.size+1<w1.heap.size:=Bg hk3 hb.size;replace hb:=aa hb)|(go_at_call 208;refine (hA.out _).mono ?_;rintro e w2 ⟨rfl,hb2⟩;have v2:w2.cell? ⟨w.heap.size+1,0,none⟩=some (.int .u64 0):=(hb2.cell (p:=⟨w.heap.size+1,0,none⟩) k1).trans v0;have v3:w2.cell? ⟨w.heap.size+1,1,none⟩=some (.int .u64 0):=(hb2.cell (p:=⟨w.heap.size+1,1,none⟩) k1).trans v1;have t2:w2.frozen? ⟨w.heap.size+1,0,none⟩=false:=(hb2.frozen (p:=⟨w.heap.size+1,0,none⟩) k1).trans t0;have t3:w2.frozen? ⟨w.heap.size+1,1,none⟩=false:=(hb2.frozen (p:=⟨w.heap.size+1,1,none⟩) k1).trans t1;have k2:w.heap.size+1<w2.heap.size:=Bg k1 hb2.size;replace hb2:=aa hb2))
 all_goals
  go_wp2
  refine bodyPost_ret (v:=.agg #[.int .u64 (dV a mh),.int .u64 (dV b ml)]) (by simp [results,results161,go_sem,v2,v3,k2]) rfl ⟨rfl,((((hw.out.drew).trans (hb.out.mono (by show w.heap.size≤wc.heap.size;omega))).trans (hb2.out.mono (by omega))).setCell (by simp) _).setCell (by simp) _⟩
theorem qx (a b:Int) (n:Nat) (w:World) (h1:1≤n) (h2:n≤128):Calls prog 95 #[.agg #[.int .u64 a,.int .u64 b],.int .i64 (n:Int)] w fun e w'=>e=.returned (.bool (dV a (fk n)==a&&dV b (fm n)==b))∧Below w.heap.size w w':=by
 obtain ⟨wa,hwa,hsa,hba,hca,-⟩:=al w #[.int .u64 a,.int .u64 b] 40
 have x0:wa.cell? ⟨w.heap.size,0,none⟩=some (.int .u64 a):=hca 0
 have x1:wa.cell? ⟨w.heap.size,1,none⟩=some (.int .u64 b):=hca 1
 have hk2:w.heap.size<wa.heap.size:=by omega
 have hM:∀ d os,Hid (Calls prog 161 #[.agg #[.int .u64 a,.int .u64 b],.int .i64 (n:Int)] (Bl (redrawn wa d) os) _):=fun d os=>aa (yL a b n _ h1 h2)
 have hg:=ax (show Below wa.heap.size wa wa from Bi _ _) (Bm _)
 replace hba:=aa hba
 replace hsa:=aa hsa
 clear hca
 have hfin:=aa (fun w1 (h:Below wa.heap.size wa w1)=>hba.out.trans (h.mono (show w.heap.size≤wa.heap.size by omega)))
 generalize dV a (fk n)=mh at*
 generalize dV b (fm n)=ml at*
 by_cases e1:mh=a
 focus
  subst e1
  by_cases e2:ml=b
  focus
   subst e2
   go_enter func95,ntmps95
   go_wp2_with fail
   refine cD ?_
   repeat (any_goals (first|go_big_quiet_step (first|(go_at_call 161;with_reducible exact Bh (hM _ _).out)|fail)|quiet_step (first|(go_at_call 161;with_reducible exact Bh (hM _ _).out)|fail)))
   refine wpQuiet_nil ?_
   intro w1 hw1
   replace hw1:=ac hw1
   go_wp2
   go_ret
   exact ⟨ah (by simp),hfin.out _ hw1⟩
  rotate_right
  have hv:=aa (beq_eq_false_iff_ne.2 e2)
 rotate_right
 have hv:=aa (beq_eq_false_iff_ne.2 e1)
 all_goals
  go_enter func95,ntmps95
  go_wp2_with fail
  refine cD ?_
  repeat (any_goals (first|go_big_quiet_step (first|(go_at_call 161;with_reducible exact Bh (hM _ _).out)|fail)|quiet_step (first|(go_at_call 161;with_reducible exact Bh (hM _ _).out)|fail)))
  refine wpQuiet_nil ?_
  intro w1 hw1
  replace hw1:=ac hw1
  go_wp2
  go_ret
  exact ⟨ah (by rw [hv.out];simp),hfin.out _ hw1⟩
theorem eA (x:Int) (m:Nat) (h0:0≤x) (h1:x<18446744073709551616) (hm:m≤64):dV x (2 ^ m-1)=x % 2 ^ m:=by
 obtain ⟨X,rfl⟩:=BR h0
 have hp:0<2 ^ m:=Nat.two_pow_pos m
 have hle:2 ^ m≤2 ^ 64:=Nat.pow_le_pow_right (by omega) hm
 have e:((2:Int) ^ m-1)=((2 ^ m-1:Nat):Int):=by rw [Int.ofNat_sub hp];simp
 rw [dV,e,u64_and_nat X (2 ^ m-1) (by omega) (by omega),Nat.and_two_pow_sub_one_eq_mod]
 simp
theorem pk (l:Lt) (n:Nat) (hl:em l) (h1:1≤n) (h2:n≤128):(dV l.2.1 (fk n)==l.2.1&&dV l.2.2 (fm n)==l.2.2)=dN (n:Int) l:=by
 obtain ⟨-,⟨a0,a1⟩,b0,b1⟩:=hl
 unfold dN lG fk fm
 rw [BM]
 rw [Bool.eq_iff_iff]
 simp only [Bn,beq_iff_eq,decide_eq_true_eq]
 by_cases h:n≤64
 ·rw [if_pos h,if_pos h,eA _ n b0 b1 h]
  have e0:dV l.2.1 0=0:=by have:=eA l.2.1 0 a0 a1 (by omega);simpa using this
  rw [e0]
  have hp:(0:Int)<2 ^ n:=Int.pow_pos (by omega)
  have hle:(2:Int) ^ n≤18446744073709551616:=by
   have h3:(2:Nat) ^ n≤18446744073709551616:=Bj (Nat.pow_le_pow_right (by omega) h) (by decide)
   have h4:=Int.ofNat_le.2 h3
   rw [Int.natCast_pow] at h4
   exact h4
  constructor
  ·rintro ⟨h3,h4⟩
   have:=Int.emod_lt_of_pos l.2.2 hp
   omega
  ·intro h3
   have:l.2.1=0:=by omega
   exact ⟨this.symm,Int.emod_eq_of_lt b0 (by omega)⟩
 ·rw [if_neg h,if_neg h,eA _ (n-64) a0 a1 (by omega)]
  have e1:dV l.2.2 18446744073709551615=l.2.2:=by
   have:=eA l.2.2 64 b0 b1 (by omega)
   rw [Int.emod_eq_of_lt b0 (by simpa using b1)] at this
   simpa using this
  rw [e1]
  have hp:(0:Int)<2 ^ (n-64):=Int.pow_pos (by omega)
  have hs:(2:Int) ^ n=2 ^ (n-64)*18446744073709551616:=by
   have:(2:Int) ^ (n-64+64)=2 ^ (n-64)*2 ^ 64:=Int.pow_add 2 (n-64) 64
   rw [show n-64+64=n by omega] at this
   simpa using this
  rw [hs]
  generalize (2:Int) ^ (n-64)=q at*
  constructor
  ·rintro ⟨h3,-⟩
   have:=Int.emod_lt_of_pos l.2.1 hp
   have h5:l.2.1+1≤q:=by omega
   have:=Int.mul_le_mul_of_nonneg_right h5 (show (0:Int)≤18446744073709551616 by omega)
   omega
  ·intro h3
   refine ⟨Int.emod_eq_of_lt a0 ?_,rfl⟩
   rcases Int.lt_or_le l.2.1 q with h5|h5
   ·exact h5
   ·have:=Int.mul_le_mul_of_nonneg_right h5 (show (0:Int)≤18446744073709551616 by omega)
    omega
theorem il (l:Lt) (w:World) (hl:em l):Calls prog 49 #[.agg #[.int .i64 l.1,.int .u64 l.2.1,.int .u64 l.2.2]] w fun e w'=>e=.returned (.bool (cr l))∧Below w.heap.size w w':=by
 obtain ⟨wa,hwa,hsa,hba,hca,-⟩:=al w #[.int .i64 l.1,.int .u64 l.2.1,.int .u64 l.2.2] 42
 have x0:wa.cell? ⟨w.heap.size,0,none⟩=some (.int .i64 l.1):=hca 0
 have x1:wa.cell? ⟨w.heap.size,1,none⟩=some (.int .u64 l.2.1):=hca 1
 have x2:wa.cell? ⟨w.heap.size,2,none⟩=some (.int .u64 l.2.2):=hca 2
 replace hba:=aa hba
 clear hca
 have hle:w.heap.size≤wa.heap.size:=by omega
 replace hsa:=aa hsa
 by_cases h0:l.1=0
 ·have hv:=aa (show cr l=true from by simp [cr,h0])
  have h0':(l.1==0)=true:=beq_iff_eq.2 h0
  clear h0
  go_enter func49,ntmps49
  go_wp2
  go_ret
  exact ⟨ah (by rw [hv.out]),hba.out⟩
 ·have h0':(l.1==0)=false:=beq_eq_false_iff_ne.2 h0
  have hW:=kT l.1 wa
  cases hw:cE l.1 with
  |false=>
   rw [hw] at hW
   have hv:=aa (show cr l=false from by simp [cr,h0,hw])
   replace hW:=aa hW
   clear hw h0
   go_enter func49,ntmps49
   go_wp2_with (go_at_call 119;refine hW.out.mono ?_;rintro e w' ⟨rfl,rfl⟩)
   go_ret
   exact ⟨ah (by rw [hv.out]),hba.out⟩
  |true=>
   rw [hw] at hW
   have hn:1≤l.1∧l.1≤128:=by simpa [cE] using hw
   obtain ⟨n,hn0⟩:=BR (show 0≤l.1 by omega)
   have hF:=qx l.2.1 l.2.2 n wa (by omega) (by omega)
   rw [pk l n hl (by omega) (by omega),←hn0] at hF
   have hv:=aa (show cr l=dN l.1 l from by simp [cr,h0,hw])
   generalize dN l.1 l=z at hv hF
   replace hW:=aa hW
   replace hF:=aa hF
   clear hw h0 hn hn0
   go_enter func49,ntmps49
   go_wp2_with (first|(go_at_call 119;refine hW.out.mono ?_;rintro e w' ⟨rfl,rfl⟩)|(go_at_call 95;refine hF.out.mono ?_;rintro e w1 ⟨rfl,hb1⟩))
   go_ret
   exact ⟨ah (by rw [hv.out]),hba.out.trans (hb1.mono (by omega))⟩
theorem ot (n:Int):∀ l:List Ex,qp n l=l.all (bB n)
 | []=>rfl
 |x::l=>by simp only [qp,List.all_cons,ot n l]
theorem ou (l:Lt) (n:Nat) (w:World) (hl:em l) (h1:1≤n) (h2:n≤128):Calls prog 95 #[.agg #[.int .u64 l.2.1,.int .u64 l.2.2],.int .i64 (n:Int)] w fun e w'=>e=.returned (.bool (dN (n:Int) l))∧Below w.heap.size w w':=by
 refine (qx l.2.1 l.2.2 n w h1 h2).mono ?_
 rintro e w' ⟨rfl,hb⟩
 exact ⟨ah (pk l n hl h1 h2),hb⟩
theorem xi {α:Type} {p:α→Bool} {l:List α} {k:Nat} (hk:k<l.length) (h:p l[k]=false):l.all p=false:=by
 rw [List.all_eq_false];exact ⟨_,Bv hk,by simp [h]⟩
theorem xj {α:Type} {p:α→Bool} {l:List α} {k:Nat} (hk:k<l.length) (h:(l.take k).all p=true) (hp:p l[k]=true):(l.take (k+1)).all p=true:=by
 rw [BO hk,List.all_append,h];simp [hp]
theorem im (n:Nat) (h1:1≤n) (h2:n≤128) (e:Ex):∀ (cs:List Value) (w:World) (B:Nat),B≤w.heap.size→dL w B cs e→
  Calls prog 97 #[.agg cs.toArray,.int .i64 (n:Int)] w fun r w'=>r=.returned (.bool (bB n e))∧Below w.heap.size w w':=by
 induction e using Ex.ind with
 |h op lit head name hi lo args ih=>
  intro cs w B hB h
  obtain ⟨A,cap,rfl,-,hlit,-,-,-,-,hs⟩:=RE.inv h
  have hl:=hs.len
  replace ih:=aa ih
  clear h
  show Calls _ _ #[.agg #[.int .u8 op,.int .i64 lit.1,.int .u64 lit.2.1,.int .u64 lit.2.2,.string head,.string name,.int .i64 hi,.int .i64 lo,.slice A args.length cap],_] _ _
  obtain ⟨wb,hwb,hsb,hbb,hcb,-⟩:=al w (aO op lit head name hi lo A args.length cap) 45
  obtain ⟨y0,y1,y2,y3,y4,y5,y6,y7,y8⟩:=bU hcb
  have hS:=aa (hs.below ai (hbb.mono hB))
  have hv:=aa (show bB n (.mk op lit head name hi lo args)=if op=1 then dN n lit else args.all (bB n) from by simp only [bB,ot])
  have hF:=aa (ou lit n wb hlit h1 h2)
  have hb0:Below wb.heap.size wb wb:=Bi _ _
  have hBk:=aa (show ∀ W,Below wb.heap.size wb W→Below w.heap.size w W from fun W hb=>hbb.trans (hb.mono (by omega)))
  have hl1:w.heap.size<wb.heap.size:=by omega
  have hBw:B≤wb.heap.size:=by omega
  clear hcb hs hbb
  replace hsb:=aa hsb
  by_cases ho:op=1
  ·replace hv:=aa (hv.out.trans (if_pos ho))
   subst ho
   clear hb0
   go_enter func97,ntmps97
   go_wp2_with (go_at_call 95;refine hF.out.mono ?_;rintro e w1 ⟨rfl,hw1⟩)
   go_ret
   exact ⟨ah hv.out.symm,hBk.out _ hw1⟩
  ·replace hv:=aa (hv.out.trans (if_neg ho))
   have hs0:=aa hb0
   have hoq:(op==1)=false:=beq_eq_false_iff_ne.2 ho
   clear hF hb0
   go_enter func97,ntmps97
   go_wp2
   go_loopw [18] (fun i wr=>∃ k:Nat,k≤args.length∧i=.int .i64 k∧Hid ((args.take k).all (bB n)=true)∧Hid (Below wb.heap.size wb wr)) (fun i _=>args.length-(intOf i).toNat)
   case atStart=>exact ⟨0,Bo _,rfl,aa (by simp),hs0⟩
   case round=>
    clear hs0
    obtain ⟨k,hk,rfl,ht,hbr⟩:=hrel
    have hzr:=hbr.out.size
    have hc:=ab hbr.out
    by_cases hlt:k<args.length
    ·obtain ⟨b,o,ecs,hA,hb,hel,hcell,hr⟩:=hS.out.2 k _ (Bk hlt)
     subst hA
     have hltz:(k:Int)<(args.length:Int):=by omega
     have hX0:=fun (W:World) (hW:Below wb.heap.size wb W)=>ih.out _ (Bv hlt) ecs W B (by have:=hW.size;omega) (ai.keep hr fun q hq=>(hW.mono hBw).cell hq)
     have hst:=aa (fun h=>xi (p:=bB n) hlt h)
     have hnx:=aa (fun h=>xj (p:=bB n) hlt ht.out h)
     generalize bB n args[k]=t at hX0 hst hnx
     generalize args[k]=x at hr
     obtain ⟨op',lit',head',name',hi',lo',args'⟩:=x
     obtain ⟨A',cap',rfl,-,-,-,-,-,-,hs'⟩:=RE.inv hr
     have hl':=hs'.len
     obtain ⟨x0,x1,x2,x3,x4,x5,x6,x7,x8⟩:=cl hcell
     obtain ⟨wx,hwx,hzx,hbx,hcx,-⟩:=al wr (aO op' lit' head' name' hi' lo' A' args'.length cap') 45
     obtain ⟨u0,u1,u2,u3,u4,u5,u6,u7,u8⟩:=bU hcx
     have hbX:=hbr.out.trans (hbx.mono hzr)
     have hX:Hid (Calls prog 97 #[.agg (aO op' lit' head' name' hi' lo' A' args'.length cap'),.int .i64 (n:Int)] wx _):=aa (hX0 wx hbX)
     have hb':b<wb.heap.size:=by omega
     replace hbX:=aa hbX
     clear hcell hr hX0 hs' hel hcx hbx
     cases t with
     |true=>
      have hres:=aa (hnx.out rfl)
      clear hnx hst
      go_wp2_with (go_at_call 97;refine hX.out.mono ?_;rintro e w1 ⟨rfl,hw1⟩)
      go_roundw
      case rel=>exact ⟨k+1,by omega,by go_num,hres,aa (hbX.out.trans (hw1.mono (by have:=hbX.out.size;omega)))⟩
      case measure=>simp [intOf];omega
     |false=>
      have hres:=aa (hst.out rfl)
      clear hnx hst
      go_wp2_with (go_at_call 97;refine hX.out.mono ?_;rintro e w1 ⟨rfl,hw1⟩)
      go_ret
      exact ⟨ah (hv.out.trans hres.out).symm,hBk.out _ (hbX.out.trans (hw1.mono (by have:=hbX.out.size;omega)))⟩
    ·have hfull:=aa (show args.all (bB n)=true from by rw [←ht.out,BB (by omega)])
     go_wp2
     go_ret
     exact ⟨ah (hv.out.trans hfull.out).symm,hBk.out _ hbr.out⟩
theorem ad {B a:Nat} {w W:World} (h:Below B w W) (ha:B≤a) (u v x:Value):Below B w (((W.setCell ⟨a,0,none⟩ u).setCell ⟨a,1,none⟩ v).setCell ⟨a,2,none⟩ x):=
 ((h.setCell (p:=⟨a,0,none⟩) ha _).setCell (p:=⟨a,1,none⟩) ha _).setCell (p:=⟨a,2,none⟩) ha _
theorem iP (l:List Fd) (A:Option Addr) (cap:Nat) (i:Int) (w:World) {B:Nat} (hB:B≤w.heap.size) (hS:Sl 2 sq w B A l) (hi:i<(l.length:Int)):
  Calls prog 124 #[.slice A l.length cap,.int .i64 i] w fun e w'=>e=fB (cg l i)∧Below w.heap.size w w':=by
 have hl:=hS.len
 obtain ⟨wb,hwb,hsb,hbb,hcb,hfb⟩:=al w #[.int .i64 0,.bool false,.bool false] 75
 obtain ⟨z0,z1,z2⟩:=bF hcb
 have hS2:=hS.below bA (hbb.mono hB)
 have hw:=aa hbb
 have hl1:w.heap.size<wb.heap.size:=by omega
 clear hcb hbb hS
 replace hsb:=aa hsb
 by_cases h0:0≤i
 ·obtain ⟨k,rfl⟩:=BR h0
  have hlt:k<l.length:=by omega
  obtain ⟨b,o,ecs,rfl,hb,hel,hcell,rfl,-,-⟩:=hS2.2 k _ (Bk hlt)
  have x0:wb.cell? ⟨b,o+k*2,none⟩=some (.string l[k].1):=by simpa using hcell 0 _ rfl
  have x1:wb.cell? ⟨b,o+k*2+1,none⟩=some (.int .i64 l[k].2):=hcell 1 _ rfl
  have hv:=aa (show cg l (k:Int)=.ok ⟨l[k].2,false,false⟩ from by
   unfold cg
   rw [if_neg (by omega),BM,Bk hlt];rfl)
  generalize l[k].2=n at x1 hv
  clear hcell hS2
  go_enter func124,ntmps124
  go_wp2_with (go_at_call 27;refine (aP _ _).mono ?_;rintro e w' ⟨rfl,rfl⟩)
  refine bodyPost_ret (v:=.agg #[.int .i64 n,.bool false,.bool false]) (by simp [results,results124,go_sem,z0,z1,z2]) rfl ⟨by rw [hv.out];rfl,?_⟩
  exact ad hw.out (by omega) _ _ _
 ·have hv:=aa (show cg l i=.error 7 from by unfold cg;rw [if_pos (by omega)])
  go_enter func124,ntmps124
  go_wp2_with (go_at_call 27;refine (bJ _ _).mono ?_;rintro e w' ⟨rfl,rfl⟩)
  exact ⟨rfl,by rw [hv.out];rfl,hw.out⟩
theorem xl (op:Int) (lit:Lt) (head name:ByteArray) (hi lo:Int) (A:Option Addr) (n cap:Nat) (t:Ty) (w:World) (hop:op=10→0≤lo∧lo≤hi∧hi<128):
  Calls prog 55 #[.agg (aO op lit head name hi lo A n cap),.agg #[.int .i64 t.w,.bool t.truth,.bool t.free]] w fun e w'=>e=fB (fX op hi lo t)∧Below w.heap.size w w':=by
 unfold aO
 obtain ⟨wa,hwa,hsa,hba,hca,-⟩:=al w (aO op lit head name hi lo A n cap) 45
 obtain ⟨wb,hwb,hsb,hbb,hcb,-⟩:=al wa #[.int .i64 t.w,.bool t.truth,.bool t.free] 75
 obtain ⟨wc,hwc,hsc,hbc,hcc,hfc⟩:=al wb #[.int .i64 0,.bool false,.bool false] 75
 have hw:=aa (hba.trans ((hbb.mono (by omega)).trans (hbc.mono (by omega))))
 have qa:∀ i,wc.cell? ⟨w.heap.size,i,none⟩=wa.cell? ⟨w.heap.size,i,none⟩:=fun i=>(bx hbc w.heap.size i (by omega)).trans (bx hbb w.heap.size i (by omega))
 have qb:∀ i,wc.cell? ⟨wa.heap.size,i,none⟩=wb.cell? ⟨wa.heap.size,i,none⟩:=fun i=>hbc.cell (p:=⟨wa.heap.size,i,none⟩) (by show wa.heap.size<_;omega)
 have hca':=fun i=>(qa i).trans (hca i)
 have hcb':=fun i=>(qb i).trans (hcb i)
 simp only [hsa] at hcb'
 simp only [hsb,hsa] at hcc hfc
 obtain ⟨e0,e1,e2,e3,e4,e5,e6,e7,e8⟩:=bU hca'
 obtain ⟨y0,y1,y2⟩:=bF hcb'
 obtain ⟨z0,z1,z2⟩:=bF hcc
 have hl1:w.heap.size<wc.heap.size:=by omega
 have hl2:w.heap.size+1<wc.heap.size:=by omega
 have hl3:w.heap.size+1+1<wc.heap.size:=by omega
 have hv:=aa (show fX op hi lo t=(if op=9 then if t.truth then .ok t else .error 9 else if op=10 then if t.truth then .error 9 else if t.free then .error 10 else if hi<t.w then .ok ⟨hi-lo+1,false,false⟩ else .error 5 else if t.truth then .error 9 else .ok t) from rfl)
 obtain ⟨tw,tr,fr⟩:=t
 clear qa qb hca hcb hca' hcb' hcc hba hbb hbc
 replace hsc:=aa hsc
 simp only at*
 by_cases h9:op=9
 ·subst h9
  clear hop
  cases tr with
  |true=>
   go_enter func55,ntmps55
   go_wp2_with (go_at_call 27;refine (aP _ _).mono ?_;rintro e w' ⟨rfl,rfl⟩)
   refine bodyPost_ret (v:=.agg #[.int .i64 tw,.bool true,.bool fr]) (by simp [results,results55,go_sem,z0,z1,z2]) rfl ⟨by rw [hv.out];rfl,?_⟩
   exact ad hw.out (by omega) _ _ _
  |false=>
   go_enter func55,ntmps55
   go_wp2_with (go_at_call 27;refine (bJ _ _).mono ?_;rintro e w' ⟨rfl,rfl⟩)
   exact ⟨rfl,by rw [hv.out];rfl,hw.out⟩
 ·by_cases h10:op=10
  ·obtain ⟨g1,g2,g3⟩:=hop h10
   subst h10
   clear hop
   cases tr with
   |true=>
    go_enter func55,ntmps55
    go_wp2_with (go_at_call 35;refine (ff _ _ _).mono ?_;rintro e w' ⟨rfl,hb1⟩)
    exact ⟨rfl,by rw [hv.out];rfl,hw.out.trans (hb1.mono (by omega))⟩
   |false=>
    cases fr with
    |true=>
     go_enter func55,ntmps55
     go_wp2_with (go_at_call 35;refine (fg _ _).mono ?_;rintro e w' ⟨rfl,hb1⟩)
     exact ⟨rfl,by rw [hv.out];rfl,hw.out.trans (hb1.mono (by omega))⟩
    |false=>
     by_cases hlt:hi<tw
     ·go_enter func55,ntmps55
      go_wp2_with (first|(go_at_call 35;refine (dg _ _).mono ?_;rintro e w1 ⟨rfl,hb1⟩;have kb1:=ab hb1;have zz1:=Bg hl3 hb1.size)|(go_at_call 27;refine (aP _ _).mono ?_;rintro e w' ⟨rfl,rfl⟩))
      have k0:=(kb1.1 _ 0 hl3).trans z0
      have k1:=(kb1.1 _ 1 hl3).trans z1
      have k2:=(kb1.1 _ 2 hl3).trans z2
      refine bodyPost_ret (v:=.agg #[.int .i64 (hi-lo+1),.bool false,.bool false]) (by simp [results,results55,go_sem,k0,k1,k2]) rfl ⟨by rw [hv.out,if_neg h9];simp [fB,gw,hlt],?_⟩
      exact ad (hw.out.trans (hb1.mono (by omega))) (by omega) _ _ _
     ·have hlq:decide (hi<tw)=false:=decide_eq_false hlt
      go_enter func55,ntmps55
      go_wp2_with (first|(go_at_call 35;refine (dg _ _).mono ?_;rintro e w1 ⟨rfl,hb1⟩;have kb1:=ab hb1;have zz1:=Bg hl3 hb1.size)|(go_at_call 27;refine (bJ _ _).mono ?_;rintro e w' ⟨rfl,rfl⟩))
      exact ⟨rfl,by rw [hv.out,if_neg h9];simp [fB,show ¬hi<tw from by omega],hw.out.trans (hb1.mono (by omega))⟩
  ·clear hop
   cases tr with
   |true=>
    go_enter func55,ntmps55
    go_wp2_with (go_at_call 27;refine (bJ _ _).mono ?_;rintro e w' ⟨rfl,rfl⟩)
    exact ⟨rfl,by rw [hv.out,if_neg h9,if_neg h10];rfl,hw.out⟩
   |false=>
    go_enter func55,ntmps55
    go_wp2_with (go_at_call 27;refine (aP _ _).mono ?_;rintro e w' ⟨rfl,rfl⟩)
    refine bodyPost_ret (v:=.agg #[.int .i64 tw,.bool false,.bool fr]) (by simp [results,results55,go_sem,z0,z1,z2]) rfl ⟨by rw [hv.out,if_neg h9,if_neg h10];rfl,?_⟩
    exact ad hw.out (by omega) _ _ _
theorem dA (a b:Ex) (ca cb:List Value) (s t:Ty) (B:Nat) (w:World) (hB:B≤w.heap.size) (ha:dL w B ca a) (hb:dL w B cb b) (hs:cV s) (ht:cV t):
  Calls prog 56 #[.agg ca.toArray,.agg cb.toArray,.agg #[.int .i64 s.w,.bool s.truth,.bool s.free],.agg #[.int .i64 t.w,.bool t.truth,.bool t.free]] w fun e w'=>e=fB (dy a b s t)∧Below w.heap.size w w':=by
 have hfa:=aa (fun (n:Nat) (h1:1≤n) (h2:n≤128) (W:World) (hW:Below w.heap.size w W)=>im n h1 h2 a ca W B (Bj hB hW.size) (ai.keep ha fun q hq=>(hW.mono hB).cell hq))
 have hfb':=aa (fun (n:Nat) (h1:1≤n) (h2:n≤128) (W:World) (hW:Below w.heap.size w W)=>im n h1 h2 b cb W B (Bj hB hW.size) (ai.keep hb fun q hq=>(hW.mono hB).cell hq))
 have hv0:=aa (show dy a b s t=(if s.truth ||t.truth then .error 9 else if s.free&&t.free then .error 10 else if s.free then (if bB t.w a then .ok t else .error 5) else if t.free then (if bB s.w b then .ok s else .error 5) else if s.w=t.w then .ok s else .error 10) from rfl)
 generalize dy a b s t=r at hv0
 have hga:∃ f:Int→Bool,∀ n,bB n a=f n:=⟨fun n=>bB n a,fun _=>rfl⟩
 obtain ⟨fa,hga⟩:=hga
 have hgb:∃ f:Int→Bool,∀ n,bB n b=f n:=⟨fun n=>bB n b,fun _=>rfl⟩
 obtain ⟨fb,hgb⟩:=hgb
 simp only [hga,hgb] at hv0 hfa hfb'
 obtain ⟨opa,lita,heada,namea,hia,loa,argsa⟩:=a
 obtain ⟨Aa,capa,rfl,-,-,-,-,-,-,hsa'⟩:=RE.inv ha
 have la:=hsa'.len
 obtain ⟨opb,litb,headb,nameb,hib,lob,argsb⟩:=b
 obtain ⟨Ab,capb,rfl,-,-,-,-,-,-,hsb'⟩:=RE.inv hb
 have lb:=hsb'.len
 clear ha hb hsa' hsb' hga hgb
 obtain ⟨sw,sr,sf⟩:=s
 obtain ⟨tw,tr,tf⟩:=t
 simp only at*
 show Calls _ _ #[.agg #[.int .u8 opa,.int .i64 lita.1,.int .u64 lita.2.1,.int .u64 lita.2.2,.string heada,.string namea,.int .i64 hia,.int .i64 loa,.slice Aa argsa.length capa],.agg #[.int .u8 opb,.int .i64 litb.1,.int .u64 litb.2.1,.int .u64 litb.2.2,.string headb,.string nameb,.int .i64 hib,.int .i64 lob,.slice Ab argsb.length capb],_,_] _ _
 change Hid (∀ n h1 h2 W hW,Calls _ _ #[.agg (aO opa lita heada namea hia loa Aa argsa.length capa),_] _ _) at hfa
 change Hid (∀ n h1 h2 W hW,Calls _ _ #[.agg (aO opb litb headb nameb hib lob Ab argsb.length capb),_] _ _) at hfb'
 obtain ⟨wa,hwa,hsa,wb,hwb,hsb,wx,hwx,hsx,wy,hwy,hsy,wz,hwz,hsz,hw,ca,cb,cx,cy,cz,hfr,hl1,hl2,hl3,hl4,hl5⟩:=AZ w (aO opa lita heada namea hia loa Aa argsa.length capa) 45 (aO opb litb headb nameb hib lob Ab argsb.length capb) 45 #[.int .i64 sw,.bool sr,.bool sf] 75 #[.int .i64 tw,.bool tr,.bool tf] 75 #[.int .i64 0,.bool false,.bool false] 75
 obtain ⟨a0,a1,a2,a3,a4,a5,a6,a7,a8⟩:=bU ca
 obtain ⟨b0,b1,b2,b3,b4,b5,b6,b7,b8⟩:=bU cb
 obtain ⟨x0,x1,x2⟩:=bF cx
 obtain ⟨y0,y1,y2⟩:=bF cy
 obtain ⟨z0,z1,z2⟩:=bF cz
 clear ca cb cx cy cz
 cases sr
 focus
  cases tr
  focus
   cases sf
   focus
    cases tf
    focus
     clear hfa hfb'
     by_cases hst:sw=tw
     ·subst hst
      have hv:=aa (show r=.ok ⟨sw,false,false⟩ from by rw [hv0.out];simp)
      go_enter func56,ntmps56
      go_wp2_with (go_at_call 27;first|(with_reducible refine (aP _ _).mono ?_;rintro e w' ⟨rfl,rfl⟩)|(with_reducible refine (bJ _ _).mono ?_;rintro e w' ⟨rfl,rfl⟩))
      refine bodyPost_ret (v:=.agg #[.int .i64 sw,.bool false,.bool false]) (by simp [results,results56,go_sem,z0,z1,z2]) rfl ⟨by rw [hv.out];rfl,?_⟩
      exact ad hw.out (by omega) _ _ _
     ·have hq:(sw==tw)=false:=beq_eq_false_iff_ne.2 hst
      have hv:=aa (show r=.error 10 from by rw [hv0.out];simp [hst])
      go_enter func56,ntmps56
      go_wp2_with (go_at_call 27;first|(with_reducible refine (aP _ _).mono ?_;rintro e w' ⟨rfl,rfl⟩)|(with_reducible refine (bJ _ _).mono ?_;rintro e w' ⟨rfl,rfl⟩))
      exact ⟨rfl,by rw [hv.out];rfl,hw.out⟩
    rotate_right
    focus
     obtain ⟨g1,g2⟩:1≤sw∧sw≤128:=hs.2 rfl rfl
     obtain ⟨n,rfl⟩:=BR (show 0≤sw by omega)
     have hF:=aa (hfb'.out n (by omega) (by omega) _ hw.out)
     simp only at hF hv0
     clear hfa hfb'
     generalize fb (n:Int)=f at hF hv0
     cases f
     focus
      have hv:=aa (show r=.error 5 from by rw [hv0.out];simp)
      go_enter func56,ntmps56
      go_wp2_with (first|(go_at_call 27;first|(with_reducible refine (aP _ _).mono ?_;rintro e w' ⟨rfl,rfl⟩)|(with_reducible refine (bJ _ _).mono ?_;rintro e w' ⟨rfl,rfl⟩))|(go_at_call 97;refine hF.out.mono ?_;rintro e w1 ⟨rfl,hw1⟩;have kb1:=ab hw1;have zz1:=Bg hl5 hw1.size;have zz2:=Bg hl1 hw1.size;have zz3:=Bg hl2 hw1.size;have zz4:=Bg hl3 hw1.size;have zz5:=Bg hl4 hw1.size))
      exact ⟨rfl,by rw [hv.out];rfl,(hw.out.trans (hw1.mono (by omega)))⟩
   rotate_right
   focus
    cases tf
    focus
     obtain ⟨g1,g2⟩:1≤tw∧tw≤128:=ht.2 rfl rfl
     obtain ⟨n,rfl⟩:=BR (show 0≤tw by omega)
     have hF:=aa (hfa.out n (by omega) (by omega) _ hw.out)
     simp only at hF hv0
     clear hfa hfb'
     generalize fa (n:Int)=f at hF hv0
     cases f
     focus
      have hv:=aa (show r=.error 5 from by rw [hv0.out];simp)
      go_enter func56,ntmps56
      go_wp2_with (first|(go_at_call 27;first|(with_reducible refine (aP _ _).mono ?_;rintro e w' ⟨rfl,rfl⟩)|(with_reducible refine (bJ _ _).mono ?_;rintro e w' ⟨rfl,rfl⟩))|(go_at_call 97;refine hF.out.mono ?_;rintro e w1 ⟨rfl,hw1⟩;have kb1:=ab hw1;have zz1:=Bg hl5 hw1.size;have zz2:=Bg hl1 hw1.size;have zz3:=Bg hl2 hw1.size;have zz4:=Bg hl3 hw1.size;have zz5:=Bg hl4 hw1.size))
      exact ⟨rfl,by rw [hv.out];rfl,(hw.out.trans (hw1.mono (by omega)))⟩
    rotate_right
    focus
     clear hfa hfb'
     have hv:=aa (show r=.error 10 from by rw [hv0.out];simp)
     go_enter func56,ntmps56
     go_wp2_with (go_at_call 27;first|(with_reducible refine (aP _ _).mono ?_;rintro e w' ⟨rfl,rfl⟩)|(with_reducible refine (bJ _ _).mono ?_;rintro e w' ⟨rfl,rfl⟩))
     exact ⟨rfl,by rw [hv.out];rfl,hw.out⟩
  rotate_right
  focus
   clear hfa hfb'
   have hv:=aa (show r=.error 9 from by rw [hv0.out];simp)
   go_enter func56,ntmps56
   go_wp2_with (go_at_call 27;first|(with_reducible refine (aP _ _).mono ?_;rintro e w' ⟨rfl,rfl⟩)|(with_reducible refine (bJ _ _).mono ?_;rintro e w' ⟨rfl,rfl⟩))
   exact ⟨rfl,by rw [hv.out];rfl,hw.out⟩
 rotate_right
 focus
  clear hfa hfb'
  have hv:=aa (show r=.error 9 from by rw [hv0.out];simp)
  go_enter func56,ntmps56
  go_wp2_with (go_at_call 27;first|(with_reducible refine (aP _ _).mono ?_;rintro e w' ⟨rfl,rfl⟩)|(with_reducible refine (bJ _ _).mono ?_;rintro e w' ⟨rfl,rfl⟩))
  exact ⟨rfl,by rw [hv.out];rfl,hw.out⟩
 all_goals
  have hv:=aa (show r=.ok ⟨(n:Int),false,false⟩ from by rw [hv0.out];simp)
  go_enter func56,ntmps56
  go_wp2_with (first|(go_at_call 27;first|(with_reducible refine (aP _ _).mono ?_;rintro e w' ⟨rfl,rfl⟩)|(with_reducible refine (bJ _ _).mono ?_;rintro e w' ⟨rfl,rfl⟩))|(go_at_call 97;refine hF.out.mono ?_;rintro e w1 ⟨rfl,hw1⟩;have kb1:=ab hw1;have zz1:=Bg hl5 hw1.size;have zz2:=Bg hl1 hw1.size;have zz3:=Bg hl2 hw1.size;have zz4:=Bg hl3 hw1.size;have zz5:=Bg hl4 hw1.size))
  have k0:=(kb1.1 _ 0 hl5).trans z0
  have k1:=(kb1.1 _ 1 hl5).trans z1
  have k2:=(kb1.1 _ 2 hl5).trans z2
  refine bodyPost_ret (v:=.agg #[.int .i64 (n:Int),.bool false,.bool false]) (by simp [results,results56,go_sem,k0,k1,k2]) rfl ⟨by rw [hv.out];rfl,?_⟩
  exact ad (hw.out.trans (hw1.mono (by omega))) (by omega) _ _ _
end Go.Proofs.YtbbdhknagofghaaGreat

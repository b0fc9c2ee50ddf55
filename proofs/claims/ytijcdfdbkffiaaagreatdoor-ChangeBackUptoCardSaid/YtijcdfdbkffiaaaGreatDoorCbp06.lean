import Derived.Test.YtijcdfdbkffiaaaGreatDoorCbp05
set_option linter.all false
set_option maxHeartbeats 8000000
set_option maxRecDepth 100000
open Go.Proofs.Tryz
namespace Go.Proofs.YtijcdfdbkffiaaaGreatDoor
open _root_.Nat renaming lt_of_lt_of_le→Hr, le_refl→Ht, zero_le→Hz, le_of_lt→HL, pow_le_pow_right→Ii, testBit_two_pow_mul_add→Is
open _root_.Go.RowKit.Below renaming refl→Hs
open _root_.Bool renaming false_and→Hu, true_and→Hx
open _root_.Go.Calls renaming regrown_of→Hv
open _root_.List renaming getElem?_eq_getElem→HA
open _root_.Go.Sort renaming grow→HG
open _root_.Int renaming eq_ofNat_of_zero_le→HH, toNat_natCast→HQ
open Go.RowKit
theorem tj (x:Pt) (y:Int) (w:World) (hx:aW x.vh∧aW x.vl∧aW x.mh∧aW x.ml):Calls prog 95 #[.agg #[.int .u64 x.vh,.int .u64 x.vl,.int .u64 x.mh,.int .u64 x.ml],.int .i64 y] w fun e w'=>e=.returned (.bool (dR x y))∧Below w.heap.size w w':=by
 obtain ⟨vh,vl,mh,ml⟩:=x
 simp only at hx ⊢
 obtain ⟨wa,hwa,hsa,hba,hca,-⟩:=af w #[.int .u64 vh,.int .u64 vl,.int .u64 mh,.int .u64 ml] 101
 have x0:wa.cell? ⟨w.heap.size,0,none⟩=some (.int .u64 vh):=hca 0
 have x1:wa.cell? ⟨w.heap.size,1,none⟩=some (.int .u64 vl):=hca 1
 have x2:wa.cell? ⟨w.heap.size,2,none⟩=some (.int .u64 mh):=hca 2
 have x3:wa.cell? ⟨w.heap.size,3,none⟩=some (.int .u64 ml):=hca 3
 have hlt:w.heap.size<wa.heap.size:=by omega
 have hF:∀ d os,Hid (Calls prog 133 #[.agg #[.int .u64 vh,.int .u64 vl],.int .i64 y] (HG (redrawn wa d) os) _):=fun d os=>aa (cA vh vl y _ ⟨hx.1,hx.2.1⟩)
 have hH:∀ d os,Hid (Calls prog 133 #[.agg #[.int .u64 mh,.int .u64 ml],.int .i64 y] (HG (redrawn wa d) os) _):=fun d os=>aa (cA mh ml y _ ⟨hx.2.2.1,hx.2.2.2⟩)
 have hA:∀ d os,Hid (Calls prog 134 #[.agg #[.int .u64 vh,.int .u64 vl],.agg #[.int .u64 mh,.int .u64 ml]] (HG (redrawn wa d) os) _):=fun d os=>aa (kB vh vl mh ml _)
 have hv:=aa (show dR ⟨vh,vl,mh,ml⟩ y=(bJ y vh vl&&bJ y mh ml&&(decide (aJ vh mh=vh)&&decide (aJ vl ml=vl))) from rfl)
 have hg:=aS (show Below wa.heap.size wa wa from Hs _ _) (Ht _)
 have hfin:=aa (fun w1 (h:Below wa.heap.size wa w1)=>hba.trans (h.mono (show w.heap.size≤wa.heap.size by omega)))
 replace hsa:=aa hsa
 clear hca hba hx
 generalize bJ y vh vl=F at hF hv
 generalize bJ y mh ml=H at hH hv
 generalize aJ vh mh=a at hA hv
 generalize aJ vl ml=b at hA hv
 cases F with
 |false=>
  rw [Hu,Hu] at hv
  go_enter func95,ntmps95
  go_wp2_with fail
  refine cR ?_
  repeat (any_goals (first|go_big_quiet_step ((go_at_call 133;with_reducible exact Hv (hF _ _).out))|quiet_step ((go_at_call 133;with_reducible exact Hv (hF _ _).out))))
  refine wpQuiet_nil ?_
  intro w1 hw1
  replace hw1:=ac hw1
  go_wp2
  go_ret
  exact ⟨ad hv.out.symm,hfin.out _ hw1⟩
 |true=>
  cases H with
  |false=>
   rw [Hx,Hu] at hv
   go_enter func95,ntmps95
   go_wp2_with fail
   refine cR ?_
   repeat (any_goals (first|go_big_quiet_step (first|(go_at_call 133;with_reducible exact Hv (hF _ _).out)|(go_at_call 133;with_reducible exact Hv (hH _ _).out))|quiet_step (first|(go_at_call 133;with_reducible exact Hv (hF _ _).out)|(go_at_call 133;with_reducible exact Hv (hH _ _).out))))
   refine wpQuiet_nil ?_
   intro w1 hw1
   replace hw1:=ac hw1
   go_wp2
   go_ret
   exact ⟨ad hv.out.symm,hfin.out _ hw1⟩
  |true=>
   rw [Hx,Hx] at hv
   by_cases e1:a=vh
   ·subst e1
    by_cases e2:b=vl
    ·subst e2
     go_enter func95,ntmps95
     go_wp2_with fail
     refine cR ?_
     repeat (any_goals (first|go_big_quiet_step (first|(go_at_call 133;with_reducible exact Hv (hF _ _).out)|(go_at_call 133;with_reducible exact Hv (hH _ _).out)|(go_at_call 134;with_reducible exact Hv (hA _ _).out))|quiet_step (first|(go_at_call 133;with_reducible exact Hv (hF _ _).out)|(go_at_call 133;with_reducible exact Hv (hH _ _).out)|(go_at_call 134;with_reducible exact Hv (hA _ _).out))))
     refine wpQuiet_nil ?_
     intro w1 hw1
     replace hw1:=ac hw1
     go_wp2
     go_ret
     exact ⟨ad (by rw [hv.out];simp),hfin.out _ hw1⟩
    ·have e3:(b==vl)=false:=beq_eq_false_iff_ne.2 e2
     replace e2:=aa e2
     go_enter func95,ntmps95
     go_wp2_with fail
     refine cR ?_
     repeat (any_goals (first|go_big_quiet_step (first|(go_at_call 133;with_reducible exact Hv (hF _ _).out)|(go_at_call 133;with_reducible exact Hv (hH _ _).out)|(go_at_call 134;with_reducible exact Hv (hA _ _).out))|quiet_step (first|(go_at_call 133;with_reducible exact Hv (hF _ _).out)|(go_at_call 133;with_reducible exact Hv (hH _ _).out)|(go_at_call 134;with_reducible exact Hv (hA _ _).out))))
     refine wpQuiet_nil ?_
     intro w1 hw1
     replace hw1:=ac hw1
     go_wp2
     go_ret
     exact ⟨ad (by rw [hv.out];simp [e2.out]),hfin.out _ hw1⟩
   ·have e3:(a==vh)=false:=beq_eq_false_iff_ne.2 e1
    replace e1:=aa e1
    go_enter func95,ntmps95
    go_wp2_with fail
    refine cR ?_
    repeat (any_goals (first|go_big_quiet_step (first|(go_at_call 133;with_reducible exact Hv (hF _ _).out)|(go_at_call 133;with_reducible exact Hv (hH _ _).out)|(go_at_call 134;with_reducible exact Hv (hA _ _).out))|quiet_step (first|(go_at_call 133;with_reducible exact Hv (hF _ _).out)|(go_at_call 133;with_reducible exact Hv (hH _ _).out)|(go_at_call 134;with_reducible exact Hv (hA _ _).out))))
    refine wpQuiet_nil ?_
    intro w1 hw1
    replace hw1:=ac hw1
    go_wp2
    go_ret
    exact ⟨ad (by rw [hv.out];simp [e1.out]),hfin.out _ hw1⟩
theorem wG (A A':Option Addr) (cap cap':Nat) (xs:List (Pt)) (ys:List Int) (w:World) (h:Sl 4 gT w w.heap.size A xs) (h':Sl 1 bc w w.heap.size A' ys):
  Calls prog 94 #[.slice A xs.length cap,.slice A' ys.length cap',.func (.func 95) #[] #[]] w fun e w'=>e=.returned (.bool (dr dR xs ys))∧Below w.heap.size w w':=by
 have hl:=h.len
 have hl':=h'.len
 have eg:∀ args w,(callFunc 95 args).run prog w=.ok (.enter 95 args) w:=enters_of func95 (by kernel_rfl) rfl
 go_enter func94,ntmps94
 by_cases he:xs.length=ys.length
 ·have hez:((xs.length:Int) !=(ys.length:Int))=false:=by rw [he];exact bne_self_eq_false _
  have hv:=aa (show dr dR xs ys=ar (fun i=>aZ (fun x=>aZ (dR x) ys i) xs i) xs.length from by unfold dr;rw [decide_eq_true he,Hx])
  replace he:=aa he
  go_wp2
  go_loopw [7,8,9,17] (fun _ _ _ i wr=>∃ k:Nat,k≤xs.length∧i=.int .i64 k∧Hid (ar (fun i=>aZ (fun x=>aZ (dR x) ys i) xs i) k=true)∧Hid (Below w.heap.size w wr)) (fun _ _ _ i _=>xs.length-(intOf i).toNat)
  case atStart=>exact ⟨0,Hz _,rfl,aa rfl,aa (Hs _ _)⟩
  case round=>
   obtain ⟨k,hk,rfl,hc,hbr⟩:=hrel
   by_cases hlt:k<xs.length
   ·have hlt':k<ys.length:=by have:=he.out;omega
    have hkz:(k:Int)<(xs.length:Int):=by omega
    have hkz':(k:Int)<(ys.length:Int):=by omega
    obtain ⟨b,o,ecs,rfl,hb,hn,hcell,rfl,hy⟩:=h.2 k _ (HA hlt)
    obtain ⟨b',o',rfl,hb',hc'⟩:=h'.int hlt'
    have hcw:=fun j u hu=>(hbr.out.cell (p:=⟨b,o+k*4+j,none⟩) hb).trans (hcell j u hu)
    have yc:=(hbr.out.cell (p:=⟨b',o'+k,none⟩) hb').trans hc'
    have hstep:ar (fun i=>aZ (fun x=>aZ (dR x) ys i) xs i) (k+1)=dR xs[k] ys[k]:=by
     rw [ar,hc.out,Hx,am _ hlt,am _ hlt']
    have hwr:=hbr.out.size
    clear h h' hcell hc
    generalize hxk:xs[k]=x at*
    generalize hyk:ys[k]=y at*
    have x0:wr.cell? ⟨b,o+k*4,none⟩=some (.int .u64 x.vh):=by simpa using hcw 0 _ rfl
    have x1:wr.cell? ⟨b,o+k*4+1,none⟩=some (.int .u64 x.vl):=hcw 1 _ rfl
    have x2:wr.cell? ⟨b,o+k*4+2,none⟩=some (.int .u64 x.mh):=hcw 2 _ rfl
    have x3:wr.cell? ⟨b,o+k*4+3,none⟩=some (.int .u64 x.ml):=hcw 3 _ rfl
    obtain ⟨wn,hwn,hsn,hbn,hcn,-⟩:=af wr #[.int .u64 x.vh,.int .u64 x.vl,.int .u64 x.mh,.int .u64 x.ml] 101
    have m0:wn.cell? ⟨wr.heap.size,0,none⟩=some (.int .u64 x.vh):=hcn 0
    have m1:wn.cell? ⟨wr.heap.size,1,none⟩=some (.int .u64 x.vl):=hcn 1
    have m2:wn.cell? ⟨wr.heap.size,2,none⟩=some (.int .u64 x.mh):=hcn 2
    have m3:wn.cell? ⟨wr.heap.size,3,none⟩=some (.int .u64 x.ml):=hcn 3
    have ycn:=(hbn.cell (p:=⟨b',o'+k,none⟩) (Hr hb' hwr)).trans yc
    have hK:=tj x y wn hy
    have hlo:=aa (fun (g:dR x y=false)=>show ar (fun i=>aZ (fun x=>aZ (dR x) ys i) xs i) xs.length=false from ba hlt (by rw [am _ hlt,am _ hlt',hxk,hyk];exact g))
    have hbw:=aa (hbr.out.trans (hbn.mono hwr))
    have hwn2:wr.heap.size<wn.heap.size:=by omega
    replace hsn:=aa hsn
    replace hstep:=aa hstep
    clear hcn hbn hbr hcw
    generalize dR x y=F at hK hstep hlo
    replace hK:=aa hK
    cases F with
    |false=>
     replace hlo:=aa (hlo.out rfl)
     go_wp2_with (go_at_fn 95;refine hK.out.mono ?_;rintro e w3 ⟨rfl,hb3⟩)
     go_ret
     exact ⟨ad (by rw [hv.out,hlo.out]),hbw.out.trans (hb3.mono (by have:=hbw.out.size;omega))⟩
    |true=>
     go_wp2_with (go_at_fn 95;refine hK.out.mono ?_;rintro e w3 ⟨rfl,hb3⟩)
     go_roundw
     case rel=>exact ⟨k+1,by omega,by go_num,hstep,aa (hbw.out.trans (hb3.mono (by have:=hbw.out.size;omega)))⟩
     case measure=>simp [intOf];omega
   ·have hke:k=xs.length:=by omega
    subst hke
    go_wp2
    go_ret
    exact ⟨ad (by rw [hv.out,hc.out]),hbr.out⟩
 ·have hez:((xs.length:Int) !=(ys.length:Int))=true:=by rw [bne_iff_ne];omega
  have hv:=aa (show dr dR xs ys=false from by unfold dr;rw [decide_eq_false he,Hu])
  clear h h'
  go_wp2
  go_ret
  exact ⟨ad hv.out.symm,Hs _ _⟩
theorem D3 (a b z mh ml:Int) (k:Nat) (w:World) (hk:k<64) (hCt:∀ W,Calls prog 168 #[.agg #[.int .u64 (bits .or .u64 (IntKind.u64.wrap (a*2 ^ k)) (b / 2 ^ (64-k))),.int .u64 (IntKind.u64.wrap (b*2 ^ k))],.int .i64 z] W fun e w'=>e=.returned (.agg #[.int .u64 mh,.int .u64 ml])∧Below W.heap.size W w'):
  Calls prog 198 #[.agg #[.int .u64 a,.int .u64 b],.int .i64 (k:Int),.int .i64 z] w fun e w'=>e=.returned (.agg #[.int .u64 mh,.int .u64 ml])∧Below w.heap.size w w':=by
 obtain ⟨wa,hwa,hsa,hba,hca,-⟩:=af w #[.int .u64 a,.int .u64 b] 96
 obtain ⟨wc,hwc,hsc,hbc,hcc,hfc⟩:=af wa #[.int .u64 0,.int .u64 0] 96
 have hw:=hba.trans (hbc.mono (by omega))
 have x0:wc.cell? ⟨w.heap.size,0,none⟩=some (.int .u64 a):=(bj hbc w.heap.size 0 (by omega)).trans (hca 0)
 have x1:wc.cell? ⟨w.heap.size,1,none⟩=some (.int .u64 b):=(bj hbc w.heap.size 1 (by omega)).trans (hca 1)
 simp only [hsa] at hcc hfc
 have z0:wc.cell? ⟨w.heap.size+1,0,none⟩=some (.int .u64 0):=hcc 0
 have z1:wc.cell? ⟨w.heap.size+1,1,none⟩=some (.int .u64 0):=hcc 1
 have hk2:w.heap.size<wc.heap.size:=by omega
 have hk3:w.heap.size+1<wc.heap.size:=by omega
 have hC:=aa hCt
 replace hw:=aa hw
 replace hsc:=aa hsc
 clear hca hcc hba hbc hCt
 go_enter func198,ntmps198
 go_wp2_with (first|(go_at_call 220;refine (gH _ _ (by omega) (by omega)).mono ?_;rintro e w' ⟨rfl,rfl⟩)|(go_at_call 168;refine (hC.out _).mono ?_;rintro e w1 ⟨rfl,hb⟩;have v0:w1.cell? ⟨w.heap.size+1,0,none⟩=some (.int .u64 0):=(hb.cell (p:=⟨w.heap.size+1,0,none⟩) hk3).trans z0;have v1:w1.cell? ⟨w.heap.size+1,1,none⟩=some (.int .u64 0):=(hb.cell (p:=⟨w.heap.size+1,1,none⟩) hk3).trans z1;have t0:w1.frozen? ⟨w.heap.size+1,0,none⟩=false:=(hb.frozen (p:=⟨w.heap.size+1,0,none⟩) hk3).trans (hfc 0);have t1:w1.frozen? ⟨w.heap.size+1,1,none⟩=false:=(hb.frozen (p:=⟨w.heap.size+1,1,none⟩) hk3).trans (hfc 1);have k1:w.heap.size+1<w1.heap.size:=Hr hk3 hb.size;replace hb:=aa hb))
 all_goals refine bodyPost_ret (v:=.agg #[.int .u64 mh,.int .u64 ml]) (by simp [results,results198,go_sem,v0,v1,k1]) rfl ⟨rfl,((hw.out.trans (hb.out.mono (by omega))).setCell (by simp) _).setCell (by simp) _⟩
theorem D4 (a b z mh ml:Int) (k:Nat) (w:World) (hk:k≤64) (hCt:∀ W,Calls prog 168 #[.agg #[.int .u64 (IntKind.u64.wrap (b*2 ^ k)),.int .u64 0],.int .i64 z] W fun e w'=>e=.returned (.agg #[.int .u64 mh,.int .u64 ml])∧Below W.heap.size W w'):
  Calls prog 198 #[.agg #[.int .u64 a,.int .u64 b],.int .i64 ((k:Int)+64),.int .i64 z] w fun e w'=>e=.returned (.agg #[.int .u64 mh,.int .u64 ml])∧Below w.heap.size w w':=by
 obtain ⟨wa,hwa,hsa,hba,hca,-⟩:=af w #[.int .u64 a,.int .u64 b] 96
 obtain ⟨wc,hwc,hsc,hbc,hcc,hfc⟩:=af wa #[.int .u64 0,.int .u64 0] 96
 have hw:=hba.trans (hbc.mono (by omega))
 have x0:wc.cell? ⟨w.heap.size,0,none⟩=some (.int .u64 a):=(bj hbc w.heap.size 0 (by omega)).trans (hca 0)
 have x1:wc.cell? ⟨w.heap.size,1,none⟩=some (.int .u64 b):=(bj hbc w.heap.size 1 (by omega)).trans (hca 1)
 simp only [hsa] at hcc hfc
 have z0:wc.cell? ⟨w.heap.size+1,0,none⟩=some (.int .u64 0):=hcc 0
 have z1:wc.cell? ⟨w.heap.size+1,1,none⟩=some (.int .u64 0):=hcc 1
 have hk2:w.heap.size<wc.heap.size:=by omega
 have hk3:w.heap.size+1<wc.heap.size:=by omega
 have hC:=aa hCt
 replace hw:=aa hw
 replace hsc:=aa hsc
 clear hca hcc hba hbc hCt
 go_enter func198,ntmps198
 go_wp2_with (first|(go_at_call 220;refine (gH _ _ (by omega) (by omega)).mono ?_;rintro e w' ⟨rfl,rfl⟩)|(go_at_call 168;refine (hC.out _).mono ?_;rintro e w1 ⟨rfl,hb⟩;have v0:w1.cell? ⟨w.heap.size+1,0,none⟩=some (.int .u64 0):=(hb.cell (p:=⟨w.heap.size+1,0,none⟩) hk3).trans z0;have v1:w1.cell? ⟨w.heap.size+1,1,none⟩=some (.int .u64 0):=(hb.cell (p:=⟨w.heap.size+1,1,none⟩) hk3).trans z1;have t0:w1.frozen? ⟨w.heap.size+1,0,none⟩=false:=(hb.frozen (p:=⟨w.heap.size+1,0,none⟩) hk3).trans (hfc 0);have t1:w1.frozen? ⟨w.heap.size+1,1,none⟩=false:=(hb.frozen (p:=⟨w.heap.size+1,1,none⟩) hk3).trans (hfc 1);have k1:w.heap.size+1<w1.heap.size:=Hr hk3 hb.size;replace hb:=aa hb))
 all_goals refine bodyPost_ret (v:=.agg #[.int .u64 mh,.int .u64 ml]) (by simp [results,results198,go_sem,v0,v1,k1]) rfl ⟨rfl,((hw.out.trans (hb.out.mono (by omega))).setCell (by simp) _).setCell (by simp) _⟩
theorem FU:∀ n:Fin 129,∀ k:Fin 64,n.val+k.val≤128→1≤n.val+k.val→aJ (bits .or .u64 (IntKind.u64.wrap (aX n.val*2 ^ k.val)) (aP n.val / 2 ^ (64-k.val))) (aX (n.val+k.val))=((dD n.val (n.val+k.val) / 18446744073709551616:Nat):Int)∧aJ (IntKind.u64.wrap (aP n.val*2 ^ k.val)) (aP (n.val+k.val))=((dD n.val (n.val+k.val) % 18446744073709551616:Nat):Int):=by decide+kernel
theorem EU:∀ n:Fin 65,∀ k:Fin 65,n.val+k.val≤64→aJ (IntKind.u64.wrap (aP n.val*2 ^ k.val)) (aX (n.val+k.val+64))=((dD n.val (n.val+k.val+64) / 18446744073709551616:Nat):Int)∧aJ 0 (aP (n.val+k.val+64))=((dD n.val (n.val+k.val+64) % 18446744073709551616:Nat):Int):=by decide+kernel
theorem CB {n:Nat} (h:n≤128):eu (n:Int)=n:=by unfold eu;split<;>omega
theorem zP (n k:Nat) (W:World) (h:n+k≤128) (h1:1≤n+k):Calls prog 198 #[.agg #[.int .u64 (aX n),.int .u64 (aP n)],.int .i64 (k:Int),.int .i64 ((n+k:Nat):Int)] W fun e w'=>e=.returned (.agg #[.int .u64 ((dD n (n+k) / 18446744073709551616:Nat):Int),.int .u64 ((dD n (n+k) % 18446744073709551616:Nat):Int)])∧Below W.heap.size W w':=by
 by_cases hk:k<64
 ·obtain ⟨e1,e2⟩:=FU ⟨n,by omega⟩ ⟨k,hk⟩ h h1
  refine D3 _ _ _ _ _ k W hk fun W=> ?_
  have:=uz (bits .or .u64 (IntKind.u64.wrap (aX n*2 ^ k)) (aP n / 2 ^ (64-k))) (IntKind.u64.wrap (aP n*2 ^ k)) (n+k) W h1 h
  rw [e1,e2] at this
  exact this
 ·obtain ⟨e1,e2⟩:=EU ⟨n,by omega⟩ ⟨k-64,by omega⟩ (by show n+(k-64)≤64;omega)
  have ek:((k:Nat):Int)=((k-64:Nat):Int)+64:=by omega
  simp only [show n+(k-64)+64=n+k by omega] at e1 e2
  rw [ek]
  refine D4 _ _ _ _ _ (k-64) W (by omega) fun W=> ?_
  have:=uz (IntKind.u64.wrap (aP n*2 ^ (k-64))) 0 (n+k) W h1 h
  rw [e1,e2] at this
  exact this
theorem qJ (n v:Nat) (w:World) (hn:n≤v) (h1:1≤v) (h2:v≤128):Calls prog 171 #[.int .i64 (n:Int),.int .i64 (v:Int)] w fun e w'=>e=.returned (.agg #[.int .u64 ((dD n v / 18446744073709551616:Nat):Int),.int .u64 ((dD n v % 18446744073709551616:Nat):Int)])∧Below w.heap.size w w':=by
 obtain ⟨wc,hwc,hsc,hbc,hcc,hfc⟩:=af w #[.int .u64 0,.int .u64 0] 96
 have z0:wc.cell? ⟨w.heap.size,0,none⟩=some (.int .u64 0):=hcc 0
 have z1:wc.cell? ⟨w.heap.size,1,none⟩=some (.int .u64 0):=hcc 1
 have hk3:w.heap.size<wc.heap.size:=by omega
 have hM:=aa (fun W=>lD (n:Int) W)
 rw [CB (by omega)] at hM
 have hS:=aa (fun W=>zP n (v-n) W (by omega) (by omega))
 rw [show n+(v-n)=v by omega,show ((v-n:Nat):Int)=(v:Int)-n by omega] at hS
 have hwr:IntKind.i64.wrap ((v:Int)-n)=(v:Int)-n:=by rw [IntKind.wrap_i64];omega
 replace hsc:=aa hsc
 replace hbc:=aa hbc
 clear hcc
 go_enter func171,ntmps171
 go_wp2_with (first|(go_at_call 197;refine (hM.out _).mono ?_;rintro e w1 ⟨rfl,hb⟩;have v0:w1.cell? ⟨w.heap.size,0,none⟩=some (.int .u64 0):=(hb.cell (p:=⟨w.heap.size,0,none⟩) hk3).trans z0;have v1:w1.cell? ⟨w.heap.size,1,none⟩=some (.int .u64 0):=(hb.cell (p:=⟨w.heap.size,1,none⟩) hk3).trans z1;have t0:w1.frozen? ⟨w.heap.size,0,none⟩=false:=(hb.frozen (p:=⟨w.heap.size,0,none⟩) hk3).trans (hfc 0);have t1:w1.frozen? ⟨w.heap.size,1,none⟩=false:=(hb.frozen (p:=⟨w.heap.size,1,none⟩) hk3).trans (hfc 1);have k1:w.heap.size<w1.heap.size:=Hr hk3 hb.size;replace hb:=aa hb)|(go_at_call 198;refine (hS.out _).mono ?_;rintro e w2 ⟨rfl,hb2⟩;have v2:w2.cell? ⟨w.heap.size,0,none⟩=some (.int .u64 0):=(hb2.cell (p:=⟨w.heap.size,0,none⟩) k1).trans v0;have v3:w2.cell? ⟨w.heap.size,1,none⟩=some (.int .u64 0):=(hb2.cell (p:=⟨w.heap.size,1,none⟩) k1).trans v1;have t2:w2.frozen? ⟨w.heap.size,0,none⟩=false:=(hb2.frozen (p:=⟨w.heap.size,0,none⟩) k1).trans t0;have t3:w2.frozen? ⟨w.heap.size,1,none⟩=false:=(hb2.frozen (p:=⟨w.heap.size,1,none⟩) k1).trans t1;have k2:w.heap.size<w2.heap.size:=Hr k1 hb2.size;replace hb2:=aa hb2))
 all_goals
  refine bodyPost_ret (v:=.agg #[.int .u64 ((dD n v / 18446744073709551616:Nat):Int),.int .u64 ((dD n v % 18446744073709551616:Nat):Int)]) (by simp [results,results171,go_sem,v2,v3,k2]) rfl ⟨rfl,(((hbc.out.trans (hb.out.mono (by omega))).trans (hb2.out.mono (by omega))).setCell (by simp) _).setCell (by simp) _⟩
theorem lY (z:Int) (w:World):Calls prog 172 #[.int .i64 z] w fun e w'=>e=.returned (.bool (aj z))∧Below w.heap.size w w':=by
 by_cases h1:1≤z
 focus
  by_cases h2:z≤128
  have hv:=aa (show aj z=true by rw [aC];exact ⟨h1,h2⟩)
  have d1:decide (1≤z)=true:=decide_eq_true h1
  have d2:decide (z≤128)=true:=decide_eq_true h2
  rotate_right
  have hv:=aa (show aj z=false by simp [aj,h2])
  have d1:decide (1≤z)=true:=decide_eq_true h1
  have d2:decide (z≤128)=false:=decide_eq_false h2
 rotate_right
 have hv:=aa (show aj z=false by simp [aj,h1])
 have d1:decide (1≤z)=false:=decide_eq_false h1
 all_goals
  go_enter func172,ntmps172
  go_wp2
  go_ret
  exact ⟨ad hv.out.symm,Hs _ _⟩
theorem qK (x:Pt) (y:Int) (w:World) (hx:fT x):Calls prog 141 #[.agg #[.int .u64 x.vh,.int .u64 x.vl,.int .u64 x.mh,.int .u64 x.ml],.int .i64 y] w fun e w'=>e=.returned (.bool (eI y x))∧Below w.heap.size w w':=by
 obtain ⟨vh,vl,mh,ml⟩:=x
 unfold fT at hx
 simp only at hx ⊢
 obtain ⟨wa,hwa,hsa,hba,hca,-⟩:=af w #[.int .u64 vh,.int .u64 vl,.int .u64 mh,.int .u64 ml] 101
 have x0:wa.cell? ⟨w.heap.size,0,none⟩=some (.int .u64 vh):=hca 0
 have x1:wa.cell? ⟨w.heap.size,1,none⟩=some (.int .u64 vl):=hca 1
 have x2:wa.cell? ⟨w.heap.size,2,none⟩=some (.int .u64 mh):=hca 2
 have x3:wa.cell? ⟨w.heap.size,3,none⟩=some (.int .u64 ml):=hca 3
 have hlt:w.heap.size<wa.heap.size:=by omega
 have hW:∀ d os,Hid (Calls prog 172 #[.int .i64 y] (HG (redrawn wa d) os) _):=fun d os=>aa (lY y _)
 have hF:∀ d os,Hid (Calls prog 133 #[.agg #[.int .u64 vh,.int .u64 vl],.int .i64 y] (HG (redrawn wa d) os) _):=fun d os=>aa (cA vh vl y _ ⟨hx.1,hx.2.1⟩)
 have hH:∀ d os,Hid (Calls prog 133 #[.agg #[.int .u64 mh,.int .u64 ml],.int .i64 y] (HG (redrawn wa d) os) _):=fun d os=>aa (cA mh ml y _ ⟨hx.2.2.1,hx.2.2.2⟩)
 have hA:∀ d os,Hid (Calls prog 134 #[.agg #[.int .u64 vh,.int .u64 vl],.agg #[.int .u64 mh,.int .u64 ml]] (HG (redrawn wa d) os) _):=fun d os=>aa (kB vh vl mh ml _)
 have hv:=aa (show eI y ⟨vh,vl,mh,ml⟩=(aj y&&(bJ y vh vl&&(bJ y mh ml&&(decide (aJ vh mh=vh)&&decide (aJ vl ml=vl))))) from rfl)
 have hg:=aS (show Below wa.heap.size wa wa from Hs _ _) (Ht _)
 have hfin:=aa (fun w1 (h:Below wa.heap.size wa w1)=>hba.trans (h.mono (show w.heap.size≤wa.heap.size by omega)))
 replace hsa:=aa hsa
 clear hca hba hx
 generalize aj y=G at hW hv
 generalize bJ y vh vl=F at hF hv
 generalize bJ y mh ml=H at hH hv
 generalize aJ vh mh=a at hA hv
 generalize aJ vl ml=b at hA hv
 cases G with
 |false=>
  rw [Hu] at hv
  go_enter func141,ntmps141
  go_wp2_with fail
  refine cR ?_
  repeat (any_goals (first|go_big_quiet_step ((go_at_call 172;with_reducible exact Hv (hW _ _).out))|quiet_step ((go_at_call 172;with_reducible exact Hv (hW _ _).out))))
  refine wpQuiet_nil ?_
  intro w1 hw1
  replace hw1:=ac hw1
  go_wp2
  go_ret
  exact ⟨ad (hv.out.symm),hfin.out _ hw1⟩
 |true=>
  rw [Hx] at hv
  cases F with
  |false=>
   rw [Hu] at hv
   go_enter func141,ntmps141
   go_wp2_with fail
   refine cR ?_
   repeat (any_goals (first|go_big_quiet_step (first|(go_at_call 172;with_reducible exact Hv (hW _ _).out)|(go_at_call 133;with_reducible exact Hv (hF _ _).out))|quiet_step (first|(go_at_call 172;with_reducible exact Hv (hW _ _).out)|(go_at_call 133;with_reducible exact Hv (hF _ _).out))))
   refine wpQuiet_nil ?_
   intro w1 hw1
   replace hw1:=ac hw1
   go_wp2
   go_ret
   exact ⟨ad (hv.out.symm),hfin.out _ hw1⟩
  |true=>
   rw [Hx] at hv
   cases H with
   |false=>
    rw [Hu] at hv
    go_enter func141,ntmps141
    go_wp2_with fail
    refine cR ?_
    repeat (any_goals (first|go_big_quiet_step (first|(go_at_call 172;with_reducible exact Hv (hW _ _).out)|(go_at_call 133;with_reducible exact Hv (hF _ _).out)|(go_at_call 133;with_reducible exact Hv (hH _ _).out))|quiet_step (first|(go_at_call 172;with_reducible exact Hv (hW _ _).out)|(go_at_call 133;with_reducible exact Hv (hF _ _).out)|(go_at_call 133;with_reducible exact Hv (hH _ _).out))))
    refine wpQuiet_nil ?_
    intro w1 hw1
    replace hw1:=ac hw1
    go_wp2
    go_ret
    exact ⟨ad (hv.out.symm),hfin.out _ hw1⟩
   |true=>
    rw [Hx] at hv
    by_cases e1:a=vh
    ·subst e1
     by_cases e2:b=vl
     ·subst e2
      go_enter func141,ntmps141
      go_wp2_with fail
      refine cR ?_
      repeat (any_goals (first|go_big_quiet_step (first|(go_at_call 172;with_reducible exact Hv (hW _ _).out)|(go_at_call 133;with_reducible exact Hv (hF _ _).out)|(go_at_call 133;with_reducible exact Hv (hH _ _).out)|(go_at_call 134;with_reducible exact Hv (hA _ _).out))|quiet_step (first|(go_at_call 172;with_reducible exact Hv (hW _ _).out)|(go_at_call 133;with_reducible exact Hv (hF _ _).out)|(go_at_call 133;with_reducible exact Hv (hH _ _).out)|(go_at_call 134;with_reducible exact Hv (hA _ _).out))))
      refine wpQuiet_nil ?_
      intro w1 hw1
      replace hw1:=ac hw1
      go_wp2
      go_ret
      exact ⟨ad (by rw [hv.out];simp),hfin.out _ hw1⟩
     ·have e3:(vl==b)=false:=beq_eq_false_iff_ne.2 (fun e=>e2 e.symm)
      have e4:(vl=b)=False:=eq_false (fun e=>e2 e.symm)
      replace e2:=aa e2
      go_enter func141,ntmps141
      go_wp2_with fail
      refine cR ?_
      repeat (any_goals (first|go_big_quiet_step (first|(go_at_call 172;with_reducible exact Hv (hW _ _).out)|(go_at_call 133;with_reducible exact Hv (hF _ _).out)|(go_at_call 133;with_reducible exact Hv (hH _ _).out)|(go_at_call 134;with_reducible exact Hv (hA _ _).out))|quiet_step (first|(go_at_call 172;with_reducible exact Hv (hW _ _).out)|(go_at_call 133;with_reducible exact Hv (hF _ _).out)|(go_at_call 133;with_reducible exact Hv (hH _ _).out)|(go_at_call 134;with_reducible exact Hv (hA _ _).out))))
      refine wpQuiet_nil ?_
      intro w1 hw1
      replace hw1:=ac hw1
      go_wp2
      go_ret
      exact ⟨ad (by rw [hv.out];simp [e2.out]),hfin.out _ hw1⟩
    ·have e3:(vh==a)=false:=beq_eq_false_iff_ne.2 (fun e=>e1 e.symm)
     have e4:(vh=a)=False:=eq_false (fun e=>e1 e.symm)
     replace e1:=aa e1
     go_enter func141,ntmps141
     go_wp2_with fail
     refine cR ?_
     repeat (any_goals (first|go_big_quiet_step (first|(go_at_call 172;with_reducible exact Hv (hW _ _).out)|(go_at_call 133;with_reducible exact Hv (hF _ _).out)|(go_at_call 133;with_reducible exact Hv (hH _ _).out)|(go_at_call 134;with_reducible exact Hv (hA _ _).out))|quiet_step (first|(go_at_call 172;with_reducible exact Hv (hW _ _).out)|(go_at_call 133;with_reducible exact Hv (hF _ _).out)|(go_at_call 133;with_reducible exact Hv (hH _ _).out)|(go_at_call 134;with_reducible exact Hv (hA _ _).out))))
     refine wpQuiet_nil ?_
     intro w1 hw1
     replace hw1:=ac hw1
     go_wp2
     go_ret
     exact ⟨ad (by rw [hv.out];simp [e1.out]),hfin.out _ hw1⟩
theorem CC {v k:Nat} {x:Pt} (hm:eI (v:Int) x=true) (hk:k≤v) (h:dD k v=nv x.mh x.ml):j9 (v:Int) x=((k:Int),true):=by
 unfold j9 m9
 rw [if_pos hm,HQ,dg.2 ⟨hk,h⟩]
theorem zQ {v:Nat} {x:Pt} (hm:eI (v:Int) x=true) (h:∀ k,k<v+1→dD k v≠nv x.mh x.ml):j9 (v:Int) x=(0,false):=by
 unfold j9 m9
 rw [if_pos hm,HQ]
 cases hl:qo v (nv x.mh x.ml) with
 |none=>rfl
 |some n=>exact absurd (dg.1 hl).2 (h n (by have:=(dg.1 hl).1;omega))
theorem zR (x:Pt) (y:Int) (w:World) (hx:fT x):Calls prog 140 #[.agg #[.int .u64 x.vh,.int .u64 x.vl,.int .u64 x.mh,.int .u64 x.ml],.int .i64 y] w fun e w'=>e=.returned (.tuple #[.int .i64 (j9 y x).1,.bool (j9 y x).2])∧Below w.heap.size w w':=by
 have hP:=fun W=>qK x y W hx
 obtain ⟨wa,hwa,hsa,hba,hca,-⟩:=af w #[.int .u64 x.vh,.int .u64 x.vl,.int .u64 x.mh,.int .u64 x.ml] 101
 have x0:wa.cell? ⟨w.heap.size,0,none⟩=some (.int .u64 x.vh):=hca 0
 have x1:wa.cell? ⟨w.heap.size,1,none⟩=some (.int .u64 x.vl):=hca 1
 have x2:wa.cell? ⟨w.heap.size,2,none⟩=some (.int .u64 x.mh):=hca 2
 have x3:wa.cell? ⟨w.heap.size,3,none⟩=some (.int .u64 x.ml):=hca 3
 have hlt:w.heap.size<wa.heap.size:=by omega
 have hfin:=aa (fun w1 (h:Below wa.heap.size wa w1)=>hba.trans (h.mono (show w.heap.size≤wa.heap.size by omega)))
 replace hsa:=aa hsa
 clear hca hba
 cases hm:eI y x with
 |false=>
  have hv:=aa (show j9 y x=(0,false) by unfold j9 m9;rw [hm];rfl)
  rw [hm] at hP
  clear hm
  go_enter func140,ntmps140
  go_wp2_with (go_at_call 141;refine (hP _).mono ?_;rintro e w1 ⟨rfl,hb1⟩)
  refine bodyPost_ret (v:=.tuple #[.int .i64 0,.bool false]) (by simp [results,results140,go_sem]) rfl ⟨by rw [hv.out],hfin.out _ hb1⟩
 |true=>
  have hw:=(aC y).1 ((iS hx).1 hm).1
  obtain ⟨v,rfl⟩:=HH (show 0≤y by omega)
  have hmz:=aa hm
  rw [hm] at hP
  clear hm
  have hH:=aa (fun (k:Nat) (hk:k≤v) W=>qJ k v W hk (by omega) (by omega))
  have hv1:IntKind.i64.wrap ((v:Int)+1)=(v:Int)+1:=by rw [IntKind.wrap_i64];omega
  go_enter func140,ntmps140
  go_wp2_with (go_at_call 141;refine (hP _).mono ?_;rintro e w1 ⟨rfl,hb1⟩)
  go_loopw [13] (fun i wr=>∃ k:Nat,k≤v+1∧i=.int .i64 k∧Hid (∀ j,j<k→dD j v≠nv x.mh x.ml)∧Hid (Below wa.heap.size wa wr)) (fun i _=>v+1-(intOf i).toNat)
  case atStart=>exact ⟨0,Hz _,rfl,aa (fun j hj=>absurd hj (Nat.not_lt_zero _)),aa hb1⟩
  case round=>
   obtain ⟨k,hk,rfl,hno,hbr⟩:=hrel
   by_cases hkv:k<v+1
   focus
    have kk:=ae hbr.out
    have y2:=(kk.1 _ 2 hlt).trans x2
    have y3:=(kk.1 _ 3 hlt).trans x3
    clear kk x0 x1 x2 x3 hb1
    have hki:(k:Int)<(v:Int)+1:=by omega
    have hC0:=fun W=>hH.out k (by omega) W
    have hlt2:=Hr hlt hbr.out.size
    have hg:=aS (show Below wr.heap.size wr wr from Hs _ _) (Ht _)
    have hbz:=aa (fun w1 (h:Below wr.heap.size wr w1)=>hbr.out.trans (h.mono hbr.out.size))
    have hnvx:=zu (a:=((dD k v / 18446744073709551616:Nat):Int)) (b:=((dD k v % 18446744073709551616:Nat):Int)) (c:=x.mh) (d:=x.ml) (by have:=ph (n:=k) (w:=v);have h2:2 ^ v≤2 ^ 128:=Ii (by decide) (by omega);constructor<;>omega) (by constructor<;>omega) hx.2.2.1 hx.2.2.2
    have hsplit:nv ((dD k v / 18446744073709551616:Nat):Int) ((dD k v % 18446744073709551616:Nat):Int)=dD k v:=by unfold nv;simp only [HQ];omega
    rw [hsplit] at hnvx
    clear hsplit
    generalize ((dD k v / 18446744073709551616:Nat):Int)=p at hC0 hnvx
    generalize ((dD k v % 18446744073709551616:Nat):Int)=q at hC0 hnvx
    have hC:∀ d os,Hid (Calls prog 171 #[.int .i64 (k:Int),.int .i64 (v:Int)] (HG (redrawn wr d) os) _):=fun d os=>aa (hC0 _)
    clear hC0
    by_cases e1:p=x.mh
    focus
     by_cases e2:q=x.ml
     focus
      have hv:=aa (CC hmz.out (by omega) (hnvx.2 ⟨e1,e2⟩))
      subst e1 e2
      clear hnvx hno
      go_wp2_with fail
      refine cR ?_
      repeat (any_goals (first|go_big_quiet_step ((go_at_call 171;with_reducible exact Hv (hC _ _).out))|quiet_step ((go_at_call 171;with_reducible exact Hv (hC _ _).out))))
      refine wpQuiet_nil ?_
      intro w1 hw1
      replace hw1:=ac hw1
      go_wp2
      refine bodyPost_ret (v:=.tuple #[.int .i64 (k:Int),.bool true]) (by simp [results,results140,go_sem]) rfl ⟨by rw [hv.out],hfin.out _ (hbz.out _ hw1)⟩
     rotate_right
     focus
      have hno2:=aa (show ∀ j,j<k+1→dD j v≠nv x.mh x.ml from fun j hj=>by
       by_cases hjk:j<k
       ·exact hno.out j hjk
       ·rw [show j=k by omega];exact fun e=>e2 (hnvx.1 e).2)
      have e3:(q==x.ml)=false:=beq_eq_false_iff_ne.2 e2
      have e4:(q=x.ml)=False:=eq_false e2
      subst e1
      clear hnvx hno e2
    rotate_right
    focus
     have hno2:=aa (show ∀ j,j<k+1→dD j v≠nv x.mh x.ml from fun j hj=>by
      by_cases hjk:j<k
      ·exact hno.out j hjk
      ·rw [show j=k by omega];exact fun e=>e1 (hnvx.1 e).1)
     have e3:(p==x.mh)=false:=beq_eq_false_iff_ne.2 e1
     have e4:(p=x.mh)=False:=eq_false e1
     clear hnvx hno e1
   rotate_right
   focus
    have hv:=aa (zQ hmz.out (fun j hj=>hno.out j (by omega)))
    have hki:¬(k:Int)<(v:Int)+1:=by omega
    go_wp2
    refine bodyPost_ret (v:=.tuple #[.int .i64 0,.bool false]) (by simp [results,results140,go_sem]) rfl ⟨by rw [hv.out],hfin.out _ hbr.out⟩
   all_goals
    go_wp2_with fail
    refine cR ?_
    repeat (any_goals (first|go_big_quiet_step ((go_at_call 171;with_reducible exact Hv (hC _ _).out))|quiet_step ((go_at_call 171;with_reducible exact Hv (hC _ _).out))))
    refine wpQuiet_nil ?_
    intro w1 hw1
    replace hw1:=ac hw1
    go_wp2
    go_roundw
    case rel=>exact ⟨k+1,by omega,by go_num,hno2,aa (hbz.out _ hw1)⟩
    case measure=>simp [intOf];omega
theorem zS (a b c d y:Int) (w:World) (h1:aW a) (h2:aW b) (h3:aW c) (h4:aW d) (hw:aj y=true) (hf:bJ y a b=true) (hh:bJ y c d=true):
  Calls prog 233 #[.agg #[.int .u64 a,.int .u64 b],.agg #[.int .u64 c,.int .u64 d],.int .i64 y] w fun e w'=>e=.returned (.tuple #[.agg #[.int .u64 (aJ a c),.int .u64 (aJ b d),.int .u64 c,.int .u64 d],.int .i64 0])∧Below w.heap.size w w':=by
 obtain ⟨wa,hwa,hsa,hba,hca,-⟩:=af w #[.int .u64 a,.int .u64 b] 96
 obtain ⟨wb,hwb,hsb,hbb,hcb,-⟩:=af wa #[.int .u64 c,.int .u64 d] 96
 obtain ⟨wc,hwc,hsc,hbc,hcc,hfc⟩:=af wb #[.int .u64 0,.int .u64 0,.int .u64 0,.int .u64 0] 101
 have hsb':wb.heap.size=w.heap.size+2:=by omega
 have hK:=aa (fun (W:World) (hW:Below wc.heap.size wc W)=>show (W.cell? ⟨w.heap.size,0,none⟩=some (.int .u64 a)∧W.cell? ⟨w.heap.size,1,none⟩=some (.int .u64 b)∧W.cell? ⟨w.heap.size+1,0,none⟩=some (.int .u64 c)∧W.cell? ⟨w.heap.size+1,1,none⟩=some (.int .u64 d))∧
   (W.cell? ⟨w.heap.size+2,0,none⟩=some (.int .u64 0)∧W.cell? ⟨w.heap.size+2,1,none⟩=some (.int .u64 0)∧W.cell? ⟨w.heap.size+2,2,none⟩=some (.int .u64 0)∧W.cell? ⟨w.heap.size+2,3,none⟩=some (.int .u64 0))∧
   (∀ i,W.frozen? ⟨w.heap.size+2,i,none⟩=false)∧w.heap.size+2<W.heap.size∧Below w.heap.size w W from by
  have kk:=ae hW
  have kc:=ae hbc
  have kb:=ae hbb
  have hWs:=hW.size
  rw [hsa] at hcb
  rw [hsb'] at hcc hfc
  refine ⟨⟨?_,?_,?_,?_⟩,⟨?_,?_,?_,?_⟩,fun i=> ?_,by omega,((hba.trans (hbb.mono (by omega))).trans (hbc.mono (by omega))).trans (hW.mono (by omega))⟩
  ·exact (kk.1 _ 0 (by omega)).trans ((kc.1 _ 0 (by omega)).trans ((kb.1 _ 0 (by omega)).trans (hca 0)))
  ·exact (kk.1 _ 1 (by omega)).trans ((kc.1 _ 1 (by omega)).trans ((kb.1 _ 1 (by omega)).trans (hca 1)))
  ·exact (kk.1 _ 0 (by omega)).trans ((kc.1 _ 0 (by omega)).trans (hcb 0))
  ·exact (kk.1 _ 1 (by omega)).trans ((kc.1 _ 1 (by omega)).trans (hcb 1))
  ·exact (kk.1 _ 0 (by omega)).trans (hcc 0)
  ·exact (kk.1 _ 1 (by omega)).trans (hcc 1)
  ·exact (kk.1 _ 2 (by omega)).trans (hcc 2)
  ·exact (kk.1 _ 3 (by omega)).trans (hcc 3)
  ·exact (kk.2 _ i (by omega)).trans (hfc i))
 have hW:=aa (fun W=>lY y W)
 rw [hw] at hW
 have hF:=aa (fun W=>cA a b y W ⟨h1,h2⟩)
 rw [hf] at hF
 have hG:=aa (fun W=>cA c d y W ⟨h3,h4⟩)
 rw [hh] at hG
 have hA:=aa (fun W=>kB a b c d W)
 replace hsc:=aa hsc
 have hz0:=aa (Hs wc.heap.size wc)
 obtain ⟨⟨x0,x1,x2,x3⟩,-,-,-,-⟩:=hK.out wc hz0.out
 clear hca hcb hcc hfc hba hbb hbc hsb hw hf hh
 go_enter func233,ntmps233
 go_wp2_with (first|(go_at_call 172;refine (hW.out _).mono ?_;rintro e w1 ⟨rfl,hb1⟩;have hz1:=hz0.out.trans hb1;obtain ⟨⟨p0,p1,p2,p3⟩,-,-,-,-⟩:=hK.out w1 hz1;clear x0 x1 x2 x3)|(go_at_call 133;refine (hF.out _).mono ?_;rintro e w2 ⟨rfl,hb2⟩;have hz2:=hz1.trans (hb2.mono hz1.size);obtain ⟨⟨q0,q1,q2,q3⟩,-,-,-,-⟩:=hK.out w2 hz2;clear p0 p1 p2 p3 hb2)|(go_at_call 133;refine (hG.out _).mono ?_;rintro e w3 ⟨rfl,hb3⟩;have hz3:=hz2.trans (hb3.mono hz2.size);obtain ⟨⟨r0,r1,r2,r3⟩,-,-,-,-⟩:=hK.out w3 hz3;clear q0 q1 q2 q3 hb3))
 go_region_with (go_at_call 134;refine (hA.out _).mono ?_;rintro e w4 ⟨rfl,hb4⟩;have hz4:=hz3.trans (((Hs wc.heap.size w3).drew).trans (hb4.mono (by simpa using hz3.size)));obtain ⟨⟨s0,s1,s2,s3⟩,⟨t0,t1,t2,t3⟩,hfr,hsl,hbl⟩:=hK.out w4 hz4;have f0:=hfr 0;have f1:=hfr 1;have f2:=hfr 2;have f3:=hfr 3;clear hfr hb4)
 all_goals
  go_wp2
  refine bodyPost_ret (v:=.tuple #[.agg #[.int .u64 (aJ a c),.int .u64 (aJ b d),.int .u64 c,.int .u64 d],.int .i64 0]) (by simp [results,results233,go_sem,t0,t1,t2,t3,hsl]) rfl ⟨rfl,(((hbl.setCell (by simp) _).setCell (by simp) _).setCell (by simp) _).setCell (by simp) _⟩
section
open Go.Lib
def nX (ts:List Tk):ByteArray:=⟨(ag ts).s.toArray⟩
def qL (l:List ByteArray) (ts:List Tk):Option (Int×List Tk):=if B9 (ag ts)=true∧nX ts∈l then some (bo l (nX ts),ai ts) else none
def nn (ts:List Tk):Option (Tk×List Tk):=if (ag ts).kind=2 then some (ag ts,ai ts) else none
def jR (s:List UInt8) (ts:List Tk):Option (List Tk):=if cD s ts=true then some (ai ts) else none
def eT (t:Tk) (w:Int):Bool:=(decide (t.w=0) ||decide ((t.w:Int)=w))&&decide (t.n<2 ^ w.toNat)
def qM (t:Tk) (most:Int):Bool:=decide (t.w=0)&&decide ((t.n:Int)≤most)
def EI (n m:Nat):Pt:=⟨((n / 18446744073709551616:Nat):Int),((n % 18446744073709551616:Nat):Int),((m / 18446744073709551616:Nat):Int),((m % 18446744073709551616:Nat):Int)⟩
def pV (n m:Nat):Pt:=EI (n&&&m) m
def pu (k w:Int) (ts:List Tk):Option (Pt×Int×List Tk):=
 if cD [95] ts=true then (if k=1 then none else some (EI 0 0,0,ai ts))
 else (nn ts).bind fun y=>
  if cD [47] y.2=true then (nn (ai y.2)).bind fun z=>if k=2∧eT y.1 w=true∧qM z.1 w=true then some (pV y.1.n (dD z.1.n w.toNat),(z.1.n:Int),z.2) else none
  else if cD nW y.2=true then (nn (ai y.2)).bind fun z=>if k=3∧eT y.1 w=true∧eT z.1 w=true then some (pV y.1.n z.1.n,0,z.2) else none
  else if k≠2∧eT y.1 w=true then some (pV y.1.n (dD w.toNat w.toNat),0,y.2) else none
def iW (p:Lp) (t:fJ):Nat→List Pt→Int→List Tk→Option (List Pt×Int×List Tk)
 |0,_,_,_=>none
 |f+1,acc,len,ts=>if acc.length<t.keys.length then (pu (im t acc.length) (qp p t acc.length) ts).bind fun y=>
   if cD [44] y.2.2=true then iW p t f (acc++ [y.1]) (len+y.2.1) (ai y.2.2) else some (acc++ [y.1],len+y.2.1,y.2.2)
  else none
def Dx (n:Nat):Int×Int:=(((n / 18446744073709551616:Nat):Int),((n % 18446744073709551616:Nat):Int))
def ic (ps:List Int):Nat→List (Int×Int)→List Tk→Option (List (Int×Int)×List Tk)
 |0,_,_=>none
 |f+1,acc,ts=>(nn ts).bind fun y=>if acc.length<ps.length∧eT y.1 (ps.getD acc.length 0)=true then
   (if cD [44] y.2=true then ic ps f (acc++ [Dx y.1.n]) (ai y.2) else some (acc++ [Dx y.1.n],y.2)) else none
def tp (ps:List Int) (ts:List Tk):Option (List (Int×Int)×List Tk):=
 (jR [40] ts).bind fun t1=>(if cD [41] t1=true then some ([],t1) else ic ps (t1.length+1) [] t1).bind fun y=>
  if cD [41] y.2=true∧y.1.length=ps.length then some (y.1,ai y.2) else none
def qN (ts:List Tk):Option (Int×List Tk):=if cD uR ts=true then (nn (ai ts)).bind fun y=>if qM y.1 65536=true then some ((y.1.n:Int),y.2) else none else some (0,ts)
def qO (p:Lp) (ts:List Tk):Option (aA×List Tk):=
 (jR [46] ts).bind fun t1=>(qL p.nt t1).bind fun x=>(eC p.tabs x.1).bind fun t=>(jR [58] x.2).bind fun t2=>
  (iW p t (t2.length+1) [] 0 t2).bind fun y=>if y.1.length=t.keys.length then (qN y.2.2).bind fun z=>(jR FT z.2).bind fun t3=>
   (qL p.na t3).bind fun v=>if v.1∈t.acts then (eC p.acts v.1).bind fun a=>(tp a.params v.2).bind fun u=>(jR [59] u.2).bind fun t4=>
    some (⟨x.1,y.1,y.2.1,z.1,⟨v.1,u.1⟩⟩,t4) else none else none
def np (p:Lp) (sw:List ByteArray):Nat→List (List aA)→List Tk→Option (List (List aA))
 |0,_,_=>none
 |f+1,out,ts=>if (ag ts).kind=0 then some out else (qL sw ts).bind fun x=>
   if (out.getD x.1.toNat []).length<64 then (qO p x.2).bind fun y=>np p sw f (out.set x.1.toNat (out.getD x.1.toNat []++ [y.1])) y.2 else none
theorem EV {hi lo a b:Int} (h1:aW hi) (h2:aW lo) (h3:aW a) (h4:aW b):EI (nv hi lo) (nv a b)=⟨hi,lo,a,b⟩:=by
 obtain ⟨a0,a1⟩:=h1
 obtain ⟨b0,b1⟩:=h2
 obtain ⟨c0,c1⟩:=h3
 obtain ⟨d0,d1⟩:=h4
 unfold EI nv
 rw [show (((hi.toNat*18446744073709551616+lo.toNat) / 18446744073709551616:Nat):Int)=hi by omega,show (((hi.toNat*18446744073709551616+lo.toNat) % 18446744073709551616:Nat):Int)=lo by omega,show (((a.toNat*18446744073709551616+b.toNat) / 18446744073709551616:Nat):Int)=a by omega,show (((a.toNat*18446744073709551616+b.toNat) % 18446744073709551616:Nat):Int)=b by omega]
end
abbrev nA (T:Nat):Value:=.agg #[.int .u64 ((T / 18446744073709551616:Nat):Int),.int .u64 ((T % 18446744073709551616:Nat):Int)]
abbrev CD (x:Pt):Value:=.agg #[.int .u64 x.vh,.int .u64 x.vl,.int .u64 x.mh,.int .u64 x.ml]
theorem D5 {a b c d:Int} (h1:aW a) (h2:aW b) (h3:aW c) (h4:aW d):nv a b&&&nv c d=nv (aJ a c) (aJ b d):=by
 obtain ⟨a,rfl⟩:=HH h1.1
 obtain ⟨b,rfl⟩:=HH h2.1
 obtain ⟨c,rfl⟩:=HH h3.1
 obtain ⟨d,rfl⟩:=HH h4.1
 have ea:aJ (a:Int) c=((a&&&c:Nat):Int):=by rw [aJ,u64_and_nat a c (by have:=h1.2;omega) (by have:=h3.2;omega)]
 have eb:aJ (b:Int) d=((b&&&d:Nat):Int):=by rw [aJ,u64_and_nat b d (by have:=h2.2;omega) (by have:=h4.2;omega)]
 have hb:b<2 ^ 64:=by have:=h2.2;omega
 have hd:d<2 ^ 64:=by have:=h4.2;omega
 rw [ea,eb]
 unfold nv
 simp only [HQ]
 rw [show a*18446744073709551616+b=2 ^ 64*a+b by omega,show c*18446744073709551616+d=2 ^ 64*c+d by omega,show (a&&&c)*18446744073709551616+(b&&&d)=2 ^ 64*(a&&&c)+(b&&&d) by omega]
 apply Nat.eq_of_testBit_eq
 intro i
 rw [Nat.testBit_and,Is _ hb,Is _ hd,Is _ (Nat.lt_of_le_of_lt Nat.and_le_left hb)]
 split<;>rw [Nat.testBit_and]
theorem cX {n:Nat} (h:n<2 ^ 128):aW ((n / 18446744073709551616:Nat):Int)∧aW ((n % 18446744073709551616:Nat):Int):=by
 refine ⟨⟨?_,?_⟩,⟨?_,?_⟩⟩<;>omega
theorem iX (n:Nat):nv ((n / 18446744073709551616:Nat):Int) ((n % 18446744073709551616:Nat):Int)=n:=by
 unfold nv;simp only [HQ];omega
theorem CE {n m:Nat} (hn:n<2 ^ 128) (hm:m<2 ^ 128):pV n m=⟨aJ ((n / 18446744073709551616:Nat):Int) ((m / 18446744073709551616:Nat):Int),aJ ((n % 18446744073709551616:Nat):Int) ((m % 18446744073709551616:Nat):Int),((m / 18446744073709551616:Nat):Int),((m % 18446744073709551616:Nat):Int)⟩:=by
 obtain ⟨a1,a2⟩:=cX hn
 obtain ⟨b1,b2⟩:=cX hm
 have h:=D5 a1 a2 b1 b2
 have h2:=EV (kI a1 b1) (kI a2 b2) b1 b2
 rw [←h,iX,iX] at h2
 exact h2
theorem nY {y:Int} (hw:aj y=true):2 ^ y.toNat≤2 ^ 128:=Ii (by decide) (by have:=(aC y).1 hw;omega)
theorem tr (n m:Nat) (y:Int) (w:World) (hw:aj y=true) (hn:n<2 ^ y.toNat) (hm:m<2 ^ y.toNat):
  Calls prog 233 #[nA n,nA m,.int .i64 y] w fun e w'=>e=.returned (.tuple #[CD (pV n m),.int .i64 0])∧Below w.heap.size w w':=by
 have hp:=nY hw
 obtain ⟨a1,a2⟩:=cX (n:=n) (by omega)
 obtain ⟨b1,b2⟩:=cX (n:=m) (by omega)
 rw [CE (by omega) (by omega)]
 exact zS _ _ _ _ y w a1 a2 b1 b2 hw (by rw [lE a1 a2,iX];exact decide_eq_true hn) (by rw [lE b1 b2,iX];exact decide_eq_true hm)
def fy (W:World) (r:Nat) (a b c d:Int):Prop:=W.heap[r]? =some (.cells #[.int .u64 a,.int .u64 b,.int .u64 c,.int .u64 d] 101 (0,0))
theorem fy.lt {W:World} {r:Nat} {a b c d:Int} (h:fy W r a b c d):r<W.heap.size:=aN h
theorem fy.cells {W:World} {r:Nat} {a b c d:Int} (h:fy W r a b c d):W.cell? ⟨r,0,none⟩=some (.int .u64 a)∧W.cell? ⟨r,1,none⟩=some (.int .u64 b)∧W.cell? ⟨r,2,none⟩=some (.int .u64 c)∧W.cell? ⟨r,3,none⟩=some (.int .u64 d)∧W.frozen? ⟨r,0,none⟩=false∧W.frozen? ⟨r,1,none⟩=false∧W.frozen? ⟨r,2,none⟩=false∧W.frozen? ⟨r,3,none⟩=false:=
 ⟨aH h 0,aH h 1,aH h 2,aH h 3,cm h 0,cm h 1,cm h 2,cm h 3⟩
theorem fy.below {W W':World} {r B:Nat} {a b c d:Int} (h:fy W r a b c d) (hb:Below B W W') (hr:r<B):fy W' r a b c d:=(hb.block r hr).trans h
theorem ir {w W:World} {B r:Nat} {a b c d:Value} (h:Below B w W) (hr:B≤r):Below B w ((((W.setCell ⟨r,0,none⟩ a).setCell ⟨r,1,none⟩ b).setCell ⟨r,2,none⟩ c).setCell ⟨r,3,none⟩ d):=
 (((h.setCell hr _).setCell hr _).setCell hr _).setCell hr _
theorem wH (n m:Nat) (y:Int) (w:World) (hw:aj y=true) (hn:n<2 ^ y.toNat) (hm:m<2 ^ y.toNat):
  Calls prog 215 #[nA n,nA m,.int .i64 y] w fun e w'=>e=.returned (.tuple #[CD (pV n m),.int .i64 0])∧Below w.heap.size w w':=by
 have hM:=aa (fun W=>tr n m y W hw hn hm)
 unfold nA at hM ⊢
 generalize pV n m=x at hM ⊢
 generalize ((n / 18446744073709551616:Nat):Int)=a at hM ⊢
 generalize ((n % 18446744073709551616:Nat):Int)=b at hM ⊢
 generalize ((m / 18446744073709551616:Nat):Int)=c at hM ⊢
 generalize ((m % 18446744073709551616:Nat):Int)=d at hM ⊢
 clear hw hn hm
 obtain ⟨wa,hwa,hsa,hba,hca,-⟩:=af w #[.int .u64 a,.int .u64 b] 96
 obtain ⟨wb,hwb,hsb,hbb,hcb,-⟩:=af wa #[.int .u64 c,.int .u64 d] 96
 obtain ⟨wc,hwc,hsc,hbc,hcc,-⟩:=af wb #[.int .u64 0,.int .u64 0,.int .u64 0,.int .u64 0] 101
 have hP:=aa (show fy wc wb.heap.size 0 0 0 0 by rw [←hwc];exact heap_alloc_new wb _)
 have x0:wc.cell? ⟨w.heap.size,0,none⟩=some (.int .u64 a):=(bj hbc w.heap.size 0 (by omega)).trans ((bj hbb w.heap.size 0 (by omega)).trans (hca 0))
 have x1:wc.cell? ⟨w.heap.size,1,none⟩=some (.int .u64 b):=(bj hbc w.heap.size 1 (by omega)).trans ((bj hbb w.heap.size 1 (by omega)).trans (hca 1))
 have x2:wc.cell? ⟨wa.heap.size,0,none⟩=some (.int .u64 c):=(bj hbc wa.heap.size 0 (by omega)).trans (hcb 0)
 have x3:wc.cell? ⟨wa.heap.size,1,none⟩=some (.int .u64 d):=(bj hbc wa.heap.size 1 (by omega)).trans (hcb 1)
 have hbw:=aa ((hba.trans (hbb.mono (by omega))).trans (hbc.mono (by omega)))
 have hz:=aa (show w.heap.size≤wb.heap.size∧wb.heap.size<wc.heap.size by omega)
 rw [hsa] at x2 x3
 have hsb':wb.heap.size=w.heap.size+2:=by omega
 rw [hsb'] at hP hz
 replace hsc:=aa hsc
 clear hca hcb hcc hba hbb hbc hsb'
 go_enter func215,ntmps215
 go_wp2_with (go_at_call 233;refine (hM.out _).mono ?_;rintro e w1 ⟨rfl,hb1⟩;have hP1:=hP.out.below hb1 hz.out.2;obtain ⟨z0,z1,z2,z3,f0,f1,f2,f3⟩:=hP1.cells;have hl:=hP1.lt)
 exact bodyPost_ret (v:=.tuple #[.agg #[.int .u64 x.vh,.int .u64 x.vl,.int .u64 x.mh,.int .u64 x.ml],.int .i64 0]) (by simp [results,results215,go_sem,z0,z1,z2,z3,hl]) rfl ⟨rfl,ir (hbw.out.trans (hb1.mono (by have:=hz.out;omega))) (by have:=hz.out;omega)⟩
theorem D6 (y:Int) (hw:aj y=true):(.agg #[.int .u64 (aX (eu y)),.int .u64 (aP (eu y))]:Value)=nA (dD y.toNat y.toNat):=by
 have hw':=(aC y).1 hw
 have hc:eu y=y.toNat:=by unfold eu;rw [if_neg (by omega)];omega
 obtain ⟨e,h1,h2⟩:=kH ⟨y.toNat,by omega⟩
 simp only at e h1 h2
 rw [hc,uK,←e]
 obtain ⟨a,a0⟩:=h1
 obtain ⟨b,b0⟩:=h2
 unfold nA nv
 rw [show (((aX y.toNat).toNat*18446744073709551616+(aP y.toNat).toNat) / 18446744073709551616:Nat)=(aX y.toNat).toNat by omega,show (((aX y.toNat).toNat*18446744073709551616+(aP y.toNat).toNat) % 18446744073709551616:Nat)=(aP y.toNat).toNat by omega,Int.toNat_of_nonneg a,Int.toNat_of_nonneg b]
theorem zT (n:Nat) (y:Int) (w:World) (hw:aj y=true) (hn:n<2 ^ y.toNat):
  Calls prog 216 #[nA n,.int .i64 y] w fun e w'=>e=.returned (.tuple #[CD (pV n (dD y.toNat y.toNat)),.int .i64 0])∧Below w.heap.size w w':=by
 have hM:=aa (fun W=>tr n (dD y.toNat y.toNat) y W hw hn ph)
 have hK:=aa (fun W=>lD y W)
 rw [D6 y hw] at hK
 unfold nA at hM hK ⊢
 generalize pV n (dD y.toNat y.toNat)=x at hM ⊢
 generalize ((n / 18446744073709551616:Nat):Int)=a at hM ⊢
 generalize ((n % 18446744073709551616:Nat):Int)=b at hM ⊢
 generalize ((dD y.toNat y.toNat / 18446744073709551616:Nat):Int)=c at hM hK
 generalize ((dD y.toNat y.toNat % 18446744073709551616:Nat):Int)=d at hM hK
 clear hw hn
 obtain ⟨wa,hwa,hsa,hba,hca,-⟩:=af w #[.int .u64 a,.int .u64 b] 96
 obtain ⟨wc,hwc,hsc,hbc,hcc,-⟩:=af wa #[.int .u64 0,.int .u64 0,.int .u64 0,.int .u64 0] 101
 have hP:=aa (show fy wc wa.heap.size 0 0 0 0 by rw [←hwc];exact heap_alloc_new wa _)
 have x0:wc.cell? ⟨w.heap.size,0,none⟩=some (.int .u64 a):=(bj hbc w.heap.size 0 (by omega)).trans (hca 0)
 have x1:wc.cell? ⟨w.heap.size,1,none⟩=some (.int .u64 b):=(bj hbc w.heap.size 1 (by omega)).trans (hca 1)
 have hz:w.heap.size<wc.heap.size:=by omega
 have hz1:=aa (show wa.heap.size<wc.heap.size∧w.heap.size≤wa.heap.size by omega)
 have hbw:=aa (hba.trans (hbc.mono (by omega)))
 rw [hsa] at hP hz1
 replace hsc:=aa hsc
 clear hca hcc hba hbc
 go_enter func216,ntmps216
 go_wp2_with fail
 go_region_with (first|(go_at_call 197;refine (hK.out _).mono ?_;rintro e w1 ⟨rfl,hb1⟩;have hb1':Below wc.heap.size wc w1:=(Hs _ _).drew.trans hb1;have v0:=(hb1'.cell (p:=⟨w.heap.size,0,none⟩) hz).trans x0;have v1:=(hb1'.cell (p:=⟨w.heap.size,1,none⟩) hz).trans x1)|(go_at_call 233;refine (hM.out _).mono ?_;rintro e w2 ⟨rfl,hb2⟩;have hb3:=hb1'.trans (hb2.mono hb1'.size);have hP1:=hP.out.below hb3 hz1.out.1;obtain ⟨z0,z1,z2,z3,f0,f1,f2,f3⟩:=hP1.cells;have hl:=hP1.lt))
 all_goals
  go_wp2
  exact bodyPost_ret (v:=.tuple #[.agg #[.int .u64 x.vh,.int .u64 x.vl,.int .u64 x.mh,.int .u64 x.ml],.int .i64 0]) (by simp [results,results216,go_sem,z0,z1,z2,z3,hl]) rfl ⟨rfl,ir (hbw.out.trans (hb3.mono (by have:=hz1.out;omega))) (by have:=hz1.out;omega)⟩
theorem wI (n k:Nat) (y:Int) (w:World) (hw:aj y=true) (hn:n<2 ^ y.toNat) (hk:(k:Int)≤y):
  Calls prog 214 #[nA n,.int .i64 (k:Int),.int .i64 y] w fun e w'=>e=.returned (.tuple #[CD (pV n (dD k y.toNat)),.int .i64 0])∧Below w.heap.size w w':=by
 have hw':=(aC y).1 hw
 have hM:=aa (fun W=>tr n (dD k y.toNat) y W hw hn ph)
 have hK:=aa (fun W=>qJ k y.toNat W (by omega) (by omega) (by omega))
 rw [Int.toNat_of_nonneg (show 0≤y by omega)] at hK
 have hW:=aa (fun W=>lY y W)
 rw [hw] at hW
 unfold nA at hM ⊢
 generalize pV n (dD k y.toNat)=x at hM ⊢
 generalize ((n / 18446744073709551616:Nat):Int)=a at hM ⊢
 generalize ((n % 18446744073709551616:Nat):Int)=b at hM ⊢
 generalize ((dD k y.toNat / 18446744073709551616:Nat):Int)=c at hM hK
 generalize ((dD k y.toNat % 18446744073709551616:Nat):Int)=d at hM hK
 have q0:decide ((k:Int)<0)=false:=decide_eq_false (by omega)
 have q1:decide (y<(k:Int))=false:=decide_eq_false (by omega)
 clear hw hn hk hw'
 obtain ⟨wa,hwa,hsa,hba,hca,-⟩:=af w #[.int .u64 a,.int .u64 b] 96
 obtain ⟨wc,hwc,hsc,hbc,hcc,-⟩:=af wa #[.int .u64 0,.int .u64 0,.int .u64 0,.int .u64 0] 101
 have hP:=aa (show fy wc wa.heap.size 0 0 0 0 by rw [←hwc];exact heap_alloc_new wa _)
 have x0:wc.cell? ⟨w.heap.size,0,none⟩=some (.int .u64 a):=(bj hbc w.heap.size 0 (by omega)).trans (hca 0)
 have x1:wc.cell? ⟨w.heap.size,1,none⟩=some (.int .u64 b):=(bj hbc w.heap.size 1 (by omega)).trans (hca 1)
 have hz:w.heap.size<wc.heap.size:=by omega
 have hz1:=aa (show wa.heap.size<wc.heap.size∧w.heap.size≤wa.heap.size by omega)
 have hbw:=aa (hba.trans (hbc.mono (by omega)))
 rw [hsa] at hP hz1
 replace hsc:=aa hsc
 clear hca hcc hba hbc
 go_enter func214,ntmps214
 go_wp2_with (go_at_call 172;refine (hW.out _).mono ?_;rintro e w0 ⟨rfl,hb0⟩)
 have u0:=(hb0.cell (p:=⟨w.heap.size,0,none⟩) hz).trans x0
 have u1:=(hb0.cell (p:=⟨w.heap.size,1,none⟩) hz).trans x1
 have hz0:=Hr hz hb0.size
 go_region_with (first|(go_at_call 171;refine (hK.out _).mono ?_;rintro e w1 ⟨rfl,hb1⟩;have hb1':Below w0.heap.size w0 w1:=(Hs _ _).drew.trans hb1;have v0:=(hb1'.cell (p:=⟨w.heap.size,0,none⟩) hz0).trans u0;have v1:=(hb1'.cell (p:=⟨w.heap.size,1,none⟩) hz0).trans u1)|(go_at_call 233;refine (hM.out _).mono ?_;rintro e w2 ⟨rfl,hb2⟩;have hb3:=hb0.trans ((hb1'.trans (hb2.mono hb1'.size)).mono hb0.size);have hP1:=hP.out.below hb3 hz1.out.1;obtain ⟨z0,z1,z2,z3,f0,f1,f2,f3⟩:=hP1.cells;have hl:=hP1.lt))
 all_goals
  go_wp2
  exact bodyPost_ret (v:=.tuple #[.agg #[.int .u64 x.vh,.int .u64 x.vl,.int .u64 x.mh,.int .u64 x.ml],.int .i64 0]) (by simp [results,results214,go_sem,z0,z1,z2,z3,hl]) rfl ⟨rfl,ir (hbw.out.trans (hb3.mono (by have:=hz1.out;omega))) (by have:=hz1.out;omega)⟩
theorem qP (s:ByteArray) (w:World) (hs:s.size≤maxLen):
  Calls prog 160 #[.string s] w fun e w'=>e=.returned (.int .i64 (dh s 0))∧w'=w:=by
 have hl:s.size≤9223372036854775807:=hs
 go_enter func160,ntmps160
 go_wp2
 go_loop [3,5] (fun i _=>∃ k:Nat,k≤s.size∧i=.int .i64 k∧dh s k=dh s 0) (fun i _=>s.size-(intOf i).toNat)
 case atStart=>exact ⟨0,Hz _,rfl,rfl⟩
 case round=>
  obtain ⟨k,hk,rfl,hg⟩:=hrel
  by_cases hlt:k<s.size
  ·have hkz:(k:Int)<(s.size:Int):=by omega
   have hP:=fun W=>Tryz.strings_HasPrefix (s.extract k s.size) ⟨#[47,47]⟩ W
   rw [iT] at hP
   have hI:=fun W=>Tryz.strings_IndexByte (s.extract k s.size) 10 W
   rw [iT] at hI
   generalize hp:Lib.hasPrefix (s.data.toList.drop k) [47,47]=pb at hP
   generalize hi:Lib.indexByte (s.data.toList.drop k) (10:Int).toNat.toUInt8=ib at hI
   replace hp:=aa hp
   replace hi:=aa hi
   cases pb with
   |false=>
    go_wp2_with (go_at_call 182;refine (hP _).mono ?_;rintro e w' ⟨rfl,rfl⟩)
    all_goals try simp only [beq_iff_eq,beq_eq_false_iff_ne,ne_eq] at*
    all_goals first
     | (have hw:pU s[k]=true:=(lO _).2 (by omega)
        go_round
        case rel=>exact ⟨k+1,by omega,by go_num,(lM hlt hw).trans hg⟩
        case measure=>simp [intOf];omega)
     | (have hw:pU s[k]=false:=by rw [←Bool.not_eq_true,lO];omega
        go_ret
        rw [show dh s 0=k from hg.symm.trans (sX hlt hw hp.out)]
        exact ⟨rfl,rfl⟩)
   |true=>
    by_cases hin:ib= -1
    ·subst hin
     have hz:(-1:Int)<0:=by omega
     go_wp2_with (first
      |(go_at_call 182;refine (hP _).mono ?_;rintro e w' ⟨rfl,rfl⟩)
      |(go_at_call 124;refine (hI _).mono ?_;rintro e w' ⟨rfl,rfl⟩))
     all_goals try simp only [beq_iff_eq,beq_eq_false_iff_ne,ne_eq] at*
     all_goals first
      | (have hw:pU s[k]=true:=(lO _).2 (by omega)
         go_round
         case rel=>exact ⟨k+1,by omega,by go_num,(lM hlt hw).trans hg⟩
         case measure=>simp [intOf];omega)
      | (go_ret
         rw [show dh s 0=s.size from hg.symm.trans (vX (HL hlt) hp.out hi.out)]
         exact ⟨rfl,rfl⟩)
    ·obtain ⟨n,hn1,hn2,hn3,hn4⟩:=sY (HL hlt) hp.out (show Lib.indexByte (s.data.toList.drop k) 10≠ -1 from fun e=>hin (hi.out.symm.trans e))
     have hib:ib=(n:Int):=hi.out.symm.trans hn1
     subst hib
     have hz:¬((n:Int)<0):=by omega
     replace hn1:=aa hn1
     go_wp2_with (first
      |(go_at_call 182;refine (hP _).mono ?_;rintro e w' ⟨rfl,rfl⟩)
      |(go_at_call 124;refine (hI _).mono ?_;rintro e w' ⟨rfl,rfl⟩))
     all_goals try simp only [beq_iff_eq,beq_eq_false_iff_ne,ne_eq] at*
     all_goals first
      | (have hw:pU s[k]=true:=(lO _).2 (by omega)
         go_round
         case rel=>exact ⟨k+1,by omega,by go_num,(lM hlt hw).trans hg⟩
         case measure=>simp [intOf];omega)
      | (go_round
         case rel=>exact ⟨k+n,by omega,by go_num,hn4.trans hg⟩
         case measure=>simp [intOf];omega)
  ·have he:=vW hlt
   go_wp2
   go_ret
   rw [show dh s 0=k from hg.symm.trans he]
   exact ⟨rfl,rfl⟩
end Go.Proofs.YtijcdfdbkffiaaaGreatDoor

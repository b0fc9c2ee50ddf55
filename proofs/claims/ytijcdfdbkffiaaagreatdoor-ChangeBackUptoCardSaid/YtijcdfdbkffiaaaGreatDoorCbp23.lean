import Derived.Test.YtijcdfdbkffiaaaGreatDoorCbp22
set_option linter.all false
set_option maxHeartbeats 8000000
set_option maxRecDepth 100000
open Go.Proofs.Tryz
namespace Go.Proofs.YtijcdfdbkffiaaaGreatDoor
open _root_.Nat renaming lt_of_lt_of_le→Hr, le_trans→Hw
open _root_.Go.RowKit.Below renaming refl→Hs
open _root_.Bool renaming false_eq_true→H2
open Go.RowKit
theorem cO {w:World} {b:Nat} {v0 v1 v2 v3 v4 v5 v6 v7 v8:Value} {p:Addr} (h:p.block≠b):(((((((((w.setCell ⟨b,0,none⟩ v0).setCell ⟨b,1,none⟩ v1).setCell ⟨b,2,none⟩ v2).setCell ⟨b,3,none⟩ v3).setCell ⟨b,4,none⟩ v4).setCell ⟨b,5,none⟩ v5).setCell ⟨b,6,none⟩ v6).setCell ⟨b,7,none⟩ v7).setCell ⟨b,8,none⟩ v8).cell? p=w.cell? p:=by
 have h':∀ o,p≠⟨b,o,none⟩:=fun o e=>h (by rw [e])
 rw [World.cell?_setCell_other _ _ _ _ (Ne.symm (h' _)),World.cell?_setCell_other _ _ _ _ (Ne.symm (h' _)),World.cell?_setCell_other _ _ _ _ (Ne.symm (h' _)),World.cell?_setCell_other _ _ _ _ (Ne.symm (h' _)),World.cell?_setCell_other _ _ _ _ (Ne.symm (h' _)),World.cell?_setCell_other _ _ _ _ (Ne.symm (h' _)),World.cell?_setCell_other _ _ _ _ (Ne.symm (h' _)),World.cell?_setCell_other _ _ _ _ (Ne.symm (h' _)),World.cell?_setCell_other _ _ _ _ (Ne.symm (h' _))]
theorem rU {w W:World} {b:Nat} {v0 v1 v2 v3 v4 v5 v6 v7 v8 u0 u1 u2 u3 u4 u5 u6 u7 u8:Value} (hW:W=(((((((((w.setCell ⟨b,0,none⟩ v0).setCell ⟨b,1,none⟩ v1).setCell ⟨b,2,none⟩ v2).setCell ⟨b,3,none⟩ v3).setCell ⟨b,4,none⟩ v4).setCell ⟨b,5,none⟩ v5).setCell ⟨b,6,none⟩ v6).setCell ⟨b,7,none⟩ v7).setCell ⟨b,8,none⟩ v8)) (r0:w.cell? ⟨b,0,none⟩=some u0) (r1:w.cell? ⟨b,1,none⟩=some u1) (r2:w.cell? ⟨b,2,none⟩=some u2) (r3:w.cell? ⟨b,3,none⟩=some u3) (r4:w.cell? ⟨b,4,none⟩=some u4) (r5:w.cell? ⟨b,5,none⟩=some u5) (r6:w.cell? ⟨b,6,none⟩=some u6) (r7:w.cell? ⟨b,7,none⟩=some u7) (r8:w.cell? ⟨b,8,none⟩=some u8):
  W.cell? ⟨b,0,none⟩=some v0∧W.cell? ⟨b,1,none⟩=some v1∧W.cell? ⟨b,2,none⟩=some v2∧W.cell? ⟨b,3,none⟩=some v3∧W.cell? ⟨b,4,none⟩=some v4∧W.cell? ⟨b,5,none⟩=some v5∧W.cell? ⟨b,6,none⟩=some v6∧W.cell? ⟨b,7,none⟩=some v7∧W.cell? ⟨b,8,none⟩=some v8:=by
 subst hW
 refine ⟨?_,?_,?_,?_,?_,?_,?_,?_,?_⟩<;>simp [go_sem,r0,r1,r2,r3,r4,r5,r6,r7,r8]
theorem Bh (A1 A2 A3 A4 A5 A6 A7 A8 A9 A10 A11 A12:Option Addr) (p:Lp) (c1 c2 c3 c4 c5 c6 c7 c8 c9 c10 c11 c12:Nat) (ASW:Option Addr) (cSW:Nat) (s:ByteArray) (z mm:Int) (w:World) (hsw:Sl 1 cJ w w.heap.size ASW ub) (hml:0<w.heap.size) (hm:w.cell? ⟨0,0,none⟩=some (.int .i64 mm)):
  Calls prog 29 #[.agg (aO A1 A2 A3 A4 A5 A6 A7 A8 A9 A10 A11 A12 p c1 c2 c3 c4 c5 c6 c7 c8 c9 c10 c11 c12),.slice ASW 1 cSW,.string s,.string DB,.int .i64 z] w fun e w'=>e=.returned (.tuple #[.agg #[.int .u8 2,.int .i64 0,.int .i64 3,.int .i64 0,.slice none 0 0,.int .i64 0,.int .i64 0,.int .i64 0,.slice none 0 0],.agg #[.int .i64 0,.int .i64 0,.int .i64 0]])∧Below w.heap.size w w':=by
 unfold aO
 have hmf:∀ (fn:Fn) (first cap:Array Value) (w:World),(Instr.makeFunc fn first cap).run prog w=.ok (.func fn first cap) w:=fun _ _ _ _=>rfl
 obtain ⟨w1,hw1,hs1,hb1,hc1,-⟩:=af w (aO A1 A2 A3 A4 A5 A6 A7 A8 A9 A10 A11 A12 p c1 c2 c3 c4 c5 c6 c7 c8 c9 c10 c11 c12) 33
 obtain ⟨w2,hw2,hs2,hb2,hc2,-⟩:=af w1 #[.string s] 9
 obtain ⟨w3,hw3,hs3,hb3,hc3,-⟩:=af w2 #[.int .i64 z] 3
 obtain ⟨w4,hw4,hs4,hb4,hc4,hf4⟩:=af w3 #[.int .u8 0,.int .i64 0,.int .i64 0,.int .i64 0,.slice none 0 0,.int .i64 0,.int .i64 0,.int .i64 0,.slice none 0 0] 51
 obtain ⟨w5,hw5,hs5,hb5,hc5,hf5⟩:=af w4 #[.int .i64 0,.int .i64 0,.int .i64 0] 60
 have hB5:Below w.heap.size w w5:=hb1.trans ((hb2.trans ((hb3.trans ((hb4.trans (hb5.mono (by omega))).mono (by omega))).mono (by omega))).mono (by omega))
 have hq3:w3.heap.size=w.heap.size+1+1+1:=by omega
 have hq4:w4.heap.size=w.heap.size+1+1+1+1:=by omega
 have hcp:=fun i=>(bj hb5 w.heap.size i (by omega)).trans ((bj hb4 w.heap.size i (by omega)).trans ((bj hb3 w.heap.size i (by omega)).trans ((bj hb2 w.heap.size i (by omega)).trans (hc1 i))))
 have hcc:=fun i=>(bj hb5 w3.heap.size i (by omega)).trans (hc4 i)
 have hfc:=fun i=>(FE hb5 w3.heap.size i (by omega)).trans (hf4 i)
 rw [hq3] at hcc hfc
 rw [hq4] at hc5 hf5
 have lp:w.heap.size<w5.heap.size:=by omega
 have lc:w.heap.size+1+1+1<w5.heap.size:=by omega
 have lf:w.heap.size+1+1+1+1<w5.heap.size:=by omega
 have hZ:=aa (fun (W:World) (hW:Below w5.heap.size w5 W)=>And.intro (aF fun i=>(hW.cell (p:=⟨w.heap.size,i,none⟩) lp).trans (hcp i)) (And.intro (bW fun i=>(hW.cell (p:=⟨w.heap.size+1+1+1,i,none⟩) lc).trans (hcc i)) (And.intro (vv fun i=>(hW.cell (p:=⟨w.heap.size+1+1+1+1,i,none⟩) lf).trans (hc5 i)) (And.intro (fun i=>(hW.frozen (p:=⟨w.heap.size+1+1+1,i,none⟩) lc).trans (hfc i)) (And.intro (fun i=>(hW.frozen (p:=⟨w.heap.size+1+1+1+1,i,none⟩) lf).trans (hf5 i)) (And.intro (Hr lp hW.size) (And.intro (Hr lc hW.size) (And.intro (Hr lf hW.size) (hB5.trans (hW.mono hB5.size))))))))))
 have hMW:=aa (fun (W:World) (hW:Below w5.heap.size w5 W)=>((hB5.trans (hW.mono hB5.size)).cell (p:=⟨0,0,none⟩) hml).trans hm)
 have hlW:=aa (fun (W:World) (hW:Below w5.heap.size w5 W)=>(Hw hB5.size hW.size:w.heap.size≤W.heap.size))
 have hSW:=aa (fun (W:World) (hW:Below w5.heap.size w5 W)=>(hsw.below aG (hB5.trans (hW.mono hB5.size))).more aG (Hw hB5.size hW.size))
 have hml':=aa hml
 replace hs5:=aa hs5
 clear hcp hcc hfc hc1 hc2 hc3 hc4 hc5 hf4 hf5 hb1 hb2 hb3 hb4 hb5 hB5 lp lc lf hq3 hq4 hsw hm hml
 go_enter func29,ntmps29
 go_upto_region 2 with fail
 obtain ⟨w6,hw6,hs6,hb6,hc6,-⟩:=af w5 #[.string xP,.string DC,.string ud,.string ⟨#[]⟩] 9
 have hsp:=aa (show Calls prog 62 #[.string DB,.string ⟨#[32]⟩,.int .i64 4] w5 fun e w'=>e=.returned (.slice (some ⟨w5.heap.size,0,none⟩) 3 4)∧w'=w6 from hw6 ▸ C8 mm w5 (hMW.out w5 (Hs _ _)))
 replace hw6:=aa hw6
 go_upto_region 3 with (go_at_call 62;refine hsp.out.mono ?_;rintro e w' ⟨rfl,rfl⟩)
 obtain ⟨w7,hw7,hs7,hb7,hc7,-⟩:=af w' #[.slice (some ⟨w5.heap.size,0,none⟩) 3 4] 28
 have h56:Below w5.heap.size w5 w7:=hb6.trans (hb7.mono (by omega))
 have l5:w5.heap.size<w7.heap.size:=by omega
 have l6:w'.heap.size<w7.heap.size:=by omega
 have hWd:=aa (fun (W:World) (hW:Below w7.heap.size w7 W)=>And.intro (ig fun i=>(hW.cell (p:=⟨w5.heap.size,i,none⟩) l5).trans ((bj hb7 w5.heap.size i (by omega)).trans (hc6 i))) (And.intro ((hW.cell (p:=⟨w'.heap.size,0,none⟩) l6).trans (hc7 0)) (And.intro (Hr l5 hW.size) (And.intro (Hr l6 hW.size) (h56.trans (hW.mono h56.size))))))
 rw [hw7]
 obtain ⟨b13,hb13⟩:∃ b13,b13=w5.heap.size+1:=⟨_,rfl⟩
 rw [hs6,←hb13] at hWd l6
 rw [←hb13]
 replace hs7:=aa hs7
 clear hb6 hb7 hc6 hc7 hsp hw7 hs6
 replace hb13:=aa hb13
 obtain ⟨⟨d0,d1,d2,d3⟩,v13,ld,lv,-⟩:=hWd.out w7 (Hs _ _)
 have hK:=aa (fun (W:World)=>(pH W).mono fun e w' h=>(⟨W.heap.size+1,h.1,h.2.2.2⟩:∃ bw,e=.returned (.agg #[iD,.bool true,dF 71,dE 73 bw,iE,.bool false,dF 74,dE 76 bw,jh,.bool true,dF 77,dE 78 bw])∧Below W.heap.size W w'))
 go_upto_region 4 with (go_at_call 31;refine (hK.out _).mono ?_;rintro e w8 ⟨bw,rfl,hb8⟩)
 obtain ⟨w9,hw9,hs9,hb9,hc9,-⟩:=af w8 #[iD,.bool true,dF 71,dE 73 bw,iE,.bool false,dF 74,dE 76 bw,jh,.bool true,dF 77,dE 78 bw] 102
 rw [hw9]
 have l8:w8.heap.size<w9.heap.size:=by omega
 have h79:Below w7.heap.size w7 w9:=hb8.trans (hb9.mono hb8.size)
 clear d0 d1 d2 d3 v13 ld lv
 obtain ⟨⟨d0,d1,d2,d3⟩,v13,ld,lv,h59⟩:=hWd.out w9 h79
 have hix:=aa (Bg (some ⟨w8.heap.size,0,none⟩) bw b13 w5.heap.size 3 4 w9 (DD l8 hc9) v13 (by decide) d0 lv ld)
 have hAll:=aa (fun (W:World) (hW:Below w9.heap.size w9 W)=>And.intro (fun i=>(hW.cell (p:=⟨w8.heap.size,i,none⟩) l8).trans (hc9 i)) (Hr l8 hW.size))
 obtain ⟨b14,hb14⟩:∃ b14,b14=w8.heap.size:=⟨_,rfl⟩
 rw [←hb14] at hix hAll ⊢
 replace hs9:=aa hs9
 replace hb14:=aa hb14
 clear hc9 hb9 hb8 hw9 l8
 go_upto_region 5 with (go_at_call 63;refine hix.out.mono ?_;rintro e wx ⟨rfl,hbx⟩)
 obtain ⟨w10,rfl⟩:∃ w10:World,w10=wx:=⟨_,rfl⟩
 have h710:Below w7.heap.size w7 w10:=h79.trans (hbx.mono h79.size)
 clear d0 d1 d2 d3 v13 ld lv h59 hix
 obtain ⟨⟨d0,d1,d2,d3⟩,v13,ld,lv,h59⟩:=hWd.out w10 h710
 obtain ⟨kc,lk⟩:=hAll.out w10 hbx
 have k0:=kc 4
 have k1:=kc 5
 have k2:=kc 6
 have k3:=kc 7
 clear kc hbx h79
 go_upto_region 8 with fail
 obtain ⟨w11,hw11,hs11,hb11,hc11,-⟩:=af w10 #[iE,.bool false,dF 74,dE 76 bw] 70
 rw [hw11]
 have l11:w10.heap.size<w11.heap.size:=by omega
 have h711:Below w7.heap.size w7 w11:=h710.trans (hb11.mono h710.size)
 have hKb:=aa (fun (W:World) (hW:Below w11.heap.size w11 W)=>And.intro ((hW.cell (p:=⟨w10.heap.size,0,none⟩) l11).trans (hc11 0)) (And.intro ((hW.cell (p:=⟨w10.heap.size,1,none⟩) l11).trans (hc11 1)) (And.intro ((hW.cell (p:=⟨w10.heap.size,2,none⟩) l11).trans (hc11 2)) (And.intro ((hW.cell (p:=⟨w10.heap.size,3,none⟩) l11).trans (hc11 3)) (Hr l11 hW.size)))))
 have hg16:w5.heap.size≤w10.heap.size:=(h56.trans (h710.mono h56.size)).size
 obtain ⟨b16,hb16⟩:∃ b16,b16=w10.heap.size:=⟨_,rfl⟩
 rw [←hb16] at hKb hg16 ⊢
 replace hs11:=aa hs11
 replace hb16:=aa hb16
 clear hc11 hb11 hw11 l11 h710
 clear d0 d1 d2 d3 v13 ld lv h59 k0 k1 k2 k3 lk
 obtain ⟨⟨d0,d1,d2,d3⟩,v13,ld,lv,h59⟩:=hWd.out w11 h711
 obtain ⟨k0,k1,k2,k3,lk⟩:=hKb.out w11 (Hs _ _)
 have hpc:=aa (fun (W:World)=>Eo W)
 go_upto_region 20 with (first|(go_at_call 65;refine (C9 _).mono ?_;rintro e w' ⟨rfl,rfl⟩)|(go_at_call 66;refine (hpc.out _).mono ?_;rintro e w12 ⟨rfl,hb12⟩;have h712:=h711.trans (hb12.mono h711.size);clear d0 d1 d2 d3 v13 ld lv h59 k0 k1 k2 k3 lk;obtain ⟨⟨d0,d1,d2,d3⟩,v13,ld,lv,h59⟩:=hWd.out w12 h712;obtain ⟨k0,k1,k2,k3,lk⟩:=hKb.out w12 hb12)|(go_at_call 67;refine (rS ASW cSW _ (hSW.out _ h59)).mono ?_;rintro e w' ⟨rfl,rfl⟩))
 obtain ⟨-,⟨r0,r1,r2,r3,r4,r5,r6,r7,r8⟩,⟨f0,f1,f2⟩,ff,fg,lp,lc,lf,hB⟩:=hZ.out w12 h59
 clear d0 d1 d2 d3 v13 ld lv
 have lk5:w.heap.size+1+1+1<w5.heap.size:=(hZ.out w5 (Hs _ _)).2.2.2.2.2.2.1
 replace lk5:=aa lk5
 go_upto_region 21 with fail
 obtain ⟨w13,hw13⟩:∃ w13:World,w13=(((((((((w12.setCell ⟨w.heap.size+1+1+1,0,none⟩ (.int .u8 2)).setCell ⟨w.heap.size+1+1+1,1,none⟩ (.int .i64 0)).setCell ⟨w.heap.size+1+1+1,2,none⟩ (.int .i64 3)).setCell ⟨w.heap.size+1+1+1,3,none⟩ (.int .i64 0)).setCell ⟨w.heap.size+1+1+1,4,none⟩ (.slice none 0 0)).setCell ⟨w.heap.size+1+1+1,5,none⟩ (.int .i64 0)).setCell ⟨w.heap.size+1+1+1,6,none⟩ (.int .i64 0)).setCell ⟨w.heap.size+1+1+1,7,none⟩ (.int .i64 0)).setCell ⟨w.heap.size+1+1+1,8,none⟩ (.slice none 0 0)):=⟨_,rfl⟩
 rw [←hw13]
 have hB13:Below w.heap.size w w13:=hw13 ▸ cI hB (by omega) _ _ _ _ _ _ _ _ _
 have hz13:w13.heap.size=w12.heap.size:=by rw [hw13];simp only [aw]
 obtain ⟨q0,q1,q2,q3,q4,q5,q6,q7,q8⟩:=rU hw13 r0 r1 r2 r3 r4 r5 r6 r7 r8
 have g0:w13.cell? ⟨w.heap.size+1+1+1+1,0,none⟩=some (.int .i64 0):=by rw [hw13,cO (by simp)];exact f0
 have g1:w13.cell? ⟨w.heap.size+1+1+1+1,1,none⟩=some (.int .i64 0):=by rw [hw13,cO (by simp)];exact f1
 have g2:w13.cell? ⟨w.heap.size+1+1+1+1,2,none⟩=some (.int .i64 0):=by rw [hw13,cO (by simp)];exact f2
 have j1:=(show w13.cell? ⟨b16,1,none⟩=w12.cell? ⟨b16,1,none⟩ from by rw [hw13];exact cO (show b16≠w.heap.size+1+1+1 by have:=lk5.out;have:=hg16;omega)).trans k1
 have zf:∀ i,w13.frozen? ⟨w.heap.size+1+1+1,i,none⟩=false:=fun i=>by rw [hw13];simp [go_sem,ff]
 have zg:∀ i,w13.frozen? ⟨w.heap.size+1+1+1+1,i,none⟩=false:=fun i=>by rw [hw13];simp [go_sem,fg]
 have tc:w.heap.size+1+1+1<w13.heap.size:=by omega
 have tf:w.heap.size+1+1+1+1<w13.heap.size:=by omega
 have tk:b16<w13.heap.size:=by omega
 replace hz13:=aa hz13
 replace hw13:=aa hw13
 clear hB ff fg f0 f1 f2 r0 r1 r2 r3 r4 r5 r6 r7 r8 k0 k1 k2 k3 lp lc lf lk
 go_upto_region 22 with fail
 go_region
 all_goals go_wp2
 all_goals refine bodyPost_ret (v:=.tuple #[.agg #[.int .u8 2,.int .i64 0,.int .i64 3,.int .i64 0,.slice none 0 0,.int .i64 0,.int .i64 0,.int .i64 0,.slice none 0 0],.agg #[.int .i64 0,.int .i64 0,.int .i64 0]]) (by simp [results,results29,go_sem,q0,q1,q2,q3,q4,q5,q6,q7,q8,g0,g1,g2,zf,zg,tc,tf]) rfl ⟨rfl,?_⟩
 all_goals repeat (first|(with_reducible exact hB13)|(with_reducible refine Below.drew ?_)|(with_reducible refine Below.setCell ?_ (by simp<;>omega) _))
theorem Da (v:Value) (W:World):(Instr.typeAssert (.iface 39 v) 20 39 true).run prog W=.ok (.tuple #[v,.bool true]) W:=by kernel_rfl
theorem Db (W:World):(Instr.typeAssert .nilIface 20 39 true).run prog W=.ok (.tuple #[.int .i64 0,.bool false]) W:=by kernel_rfl
theorem fF {P:Program} {ops:Array Oper} {Q:Exit→Act→List Frame→World→Prop} {l:List Nat} {a:Act} {cs:List Frame} {w:World} (h:∀ K:Exit→Act→List Frame→World→Prop,(∀ e a cs w,Q e a cs w→K e a cs w)→wpOpsS P ops K l a cs w):wpOpsS P ops Q l a cs w:=h Q fun _ _ _ _ h=>h
theorem mG (b k:Nat) (s:ByteArray) (v:Value) (n:Int) (older:List PanicEntry) (w:World) (h:fB w b s k v) (hk:k≤s.size) (hs:s.size<4611686018427387904) (hn:n≠0):
  CallsD prog 159 #[.pointer (some ⟨b,0,none⟩),.pointer (some ⟨b+3,0,none⟩),.pointer (some ⟨b+1,0,none⟩),.pointer (some ⟨b+2,0,none⟩)] (.panicking ({ v:=.iface 39 (.int .i64 n),recovered:=false}::older)) w fun e u' w'=>
   e=.returned (.tuple #[])∧u'=.panicking ({ v:=.iface 39 (.int .i64 n),recovered:=true}::older)∧∃ w3,Below w.heap.size w w3∧w'=((((w3.setCell ⟨b+1,0,none⟩ (.slice none 0 0)).setCell ⟨b+2,0,none⟩ (.int .i64 n)).setCell ⟨b+2,1,none⟩ (.int .i64 (((bN (s.data.toList.take k)).1:Nat):Int))).setCell ⟨b+2,2,none⟩ (.int .i64 (((bN (s.data.toList.take k)).2:Nat):Int))):=by
 have hF:=aa (wS s k n w hk hs hn)
 unfold ma at hF
 generalize (((bN (s.data.toList.take k)).1:Nat):Int)=pl at hF ⊢
 generalize (((bN (s.data.toList.take k)).2:Nat):Int)=pc at hF ⊢
 have hb:=aa h
 obtain ⟨lt,c0,c1,e0,e1,e2,c3,f1,g0,g1,g2,f3⟩:=h
 refine callsD_of_wpS func159 rfl fun c₀ cs hu=> ?_
 apply wpS_seq
 apply wpS_region
 refine fF fun K hK=> ?_
 simp [wpOpsS,go_sem,Da,recoverD,hu,ntmps159]
 refine hK _ _ _ _ ?_
 clear hK K
 show Code.wpS _ _ _ _ _ _
 apply wpS_seq
 apply wpS_region
 refine fF fun K hK=> ?_
 simp [wpOpsS,go_sem]
 refine hK _ _ _ _ ?_
 clear hK K
 show Code.wpS _ _ _ _ _ _
 refine wpS_cond (t:=true) (by simp [Act.eval,Array.replicate]) ?_
 simp only [if_true]
 refine wpS_of_wp ?_
 go_wp2_with (go_at_call 27;refine hF.out.mono ?_;rintro e w3 ⟨rfl,hb3⟩;have kb:=hb.out.below hb3 lt;obtain ⟨y,yc0,yc1,ye0,ye1,ye2,yc3,yf1,yg0,yg1,yg2,yf3⟩:=kb)
 exact ⟨rfl,_,rfl,.tuple #[],by simp [results,results159],rfl,rfl,w3,hb3,rfl⟩
theorem xQ (p q r t:Addr) (w:World):
  CallsD prog 159 #[.pointer (some p),.pointer (some q),.pointer (some r),.pointer (some t)] .returning w fun e u' w'=>e=.returned (.tuple #[])∧u'=.returning∧w'=w:=by
 refine callsD_of_wpS func159 rfl fun c₀ cs hu=> ?_
 apply wpS_seq
 apply wpS_region
 refine fF fun K hK=> ?_
 simp [wpOpsS,go_sem,Db,recoverD,hu,ntmps159]
 refine hK _ _ _ _ ?_
 clear hK K
 show Code.wpS _ _ _ _ _ _
 apply wpS_seq
 apply wpS_region
 refine fF fun K hK=> ?_
 simp [wpOpsS,go_sem]
 refine hK _ _ _ _ ?_
 clear hK K
 show Code.wpS _ _ _ _ _ _
 refine wpS_cond (t:=false) (by simp [Act.eval,Array.replicate]) ?_
 simp only [H2,if_false]
 refine wpS_of_wp ?_
 go_wp2
 exact ⟨rfl,.returning,by cases c₀;simp_all,.tuple #[],by simp [results,results159],rfl,rfl,rfl⟩
end Go.Proofs.YtijcdfdbkffiaaaGreatDoor

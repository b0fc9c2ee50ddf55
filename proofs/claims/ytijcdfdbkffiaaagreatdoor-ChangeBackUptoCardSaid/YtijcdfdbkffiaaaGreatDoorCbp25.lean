import Derived.Test.YtijcdfdbkffiaaaGreatDoorCbp24
set_option linter.all false
set_option maxHeartbeats 8000000
set_option maxRecDepth 100000
open Go.Proofs.Tryz
namespace Go.Proofs.YtijcdfdbkffiaaaGreatDoor
open _root_.Nat renaming lt_of_lt_of_le→Hr, le_refl→Ht, le_trans→Hw, zero_le→Hz
open _root_.Go.RowKit.Below renaming refl→Hs
open _root_.Bool renaming and_eq_true→Hy
open _root_.List renaming length_append→HM, replicate→H8, getElem?_append_right→Ik, getElem?_append_left→Ip
open Go.RowKit
section
attribute [local go_sem ↓] cH
def rY (j:Nat):Nat:=if j=0 then 0 else if j=1 then 39 else 52
theorem Ep (A1 A2 A3 A4 A5 A6 A7 A8 A9 A10 A11 A12:Option Addr) (p:Lp) (c1 c2 c3 c4 c5 c6 c7 c8 c9 c10 c11 c12:Nat) (ASW:Option Addr) (cSW:Nat) (S:ByteArray) (hS:S=uc) (mm:Int) (w:World) (hP:cz w w.heap.size A1 A2 A3 A4 A5 A6 A7 A8 A9 A10 A11 A12 p) (hmay:bR p=true) (hsw:Sl 1 cJ w w.heap.size ASW ub) (hV:gV w) (hml:0<w.heap.size) (hm:w.cell? ⟨0,0,none⟩=some (.int .i64 mm)) (ho:np p ub 100 (H8 ub.length []) rM=some [[Be]]):
  Calls prog 16 #[.agg (aO A1 A2 A3 A4 A5 A6 A7 A8 A9 A10 A11 A12 p c1 c2 c3 c4 c5 c6 c7 c8 c9 c10 c11 c12),.slice ASW 1 cSW,.string S] w fun e w'=>∃ A c A1 n1 d1 A2 n2 d2,e=.returned (.tuple #[.slice A 2 c,.agg #[.int .i64 0,.int .i64 0,.int .i64 0]])∧Sl 9 Fc w' w'.heap.size A [⟨1,0,0,0,A1,n1,d1,4,0,0,A2,n2,d2⟩,⟨2,0,3,0,none,0,0,0,0,0,none,0,0⟩]∧Below w.heap.size w w':=by
 unfold aO
 have hsS:S.size=52:=by rw [hS];rfl
 have hx0:S.extract 0 S.size=uc:=by rw [hS];rfl
 have hx1:S.extract 39 S.size=rR:=by rw [hS];rfl
 obtain ⟨w1,hw1,hs1,hb1,hc1,-⟩:=af w (aO A1 A2 A3 A4 A5 A6 A7 A8 A9 A10 A11 A12 p c1 c2 c3 c4 c5 c6 c7 c8 c9 c10 c11 c12) 33
 obtain ⟨w2,hw2,hs2,hb2,hc2,hf2⟩:=af w1 #[.int .i64 0,.int .i64 0,.int .i64 0] 60
 have hB2:Below w.heap.size w w2:=hb1.trans (hb2.mono (by omega))
 have lp:w.heap.size<w2.heap.size:=by omega
 have lf:w.heap.size+1<w2.heap.size:=by omega
 have hcp:=fun i=>(bj hb2 w.heap.size i (by omega)).trans (hc1 i)
 rw [hs1] at hc2 hf2
 have hZ:=aa (fun (W:World) (hW:Below w2.heap.size w2 W)=>And.intro (aF fun i=>(hW.cell (p:=⟨w.heap.size,i,none⟩) lp).trans (hcp i)) (And.intro (vv fun i=>(hW.cell (p:=⟨w.heap.size+1,i,none⟩) lf).trans (hc2 i)) (And.intro (fun i=>(hW.frozen (p:=⟨w.heap.size+1,i,none⟩) lf).trans (hf2 i)) (And.intro (Hr lp hW.size) (And.intro (Hr lf hW.size) (hB2.trans (hW.mono hB2.size)))))))
 have hMW:=aa (fun (W:World) (hW:Below w2.heap.size w2 W)=>((hB2.trans (hW.mono hB2.size)).cell (p:=⟨0,0,none⟩) hml).trans hm)
 have hVW:=aa (fun (W:World) (hW:Below w2.heap.size w2 W)=>hV.below (hB2.trans (hW.mono hB2.size)) (Ht _))
 have hlW:=aa (fun (W:World) (hW:Below w2.heap.size w2 W)=>(Hw hB2.size hW.size:w.heap.size≤W.heap.size))
 have hSW:=aa (fun (W:World) (hW:Below w2.heap.size w2 W)=>(hsw.below aG (hB2.trans (hW.mono hB2.size))).more aG (Hw hB2.size hW.size))
 have hPW:=aa (fun (W:World) (hW:Below w2.heap.size w2 W)=>(hP.below (hB2.trans (hW.mono hB2.size))).more (Hw hB2.size hW.size))
 have hM:=dA A1 A2 A3 A4 A5 A6 A7 A8 A9 A10 A11 A12 p c1 c2 c3 c4 c5 c6 c7 c8 c9 c10 c11 c12 w2 (hPW.out w2 (Hs _ _))
 rw [hmay] at hM
 replace hM:=aa hM
 have hL1:=aa (fun (W:World) (hW:Below w2.heap.size w2 W)=>Bq A1 A2 A3 A4 A5 A6 A7 A8 A9 A10 A11 A12 p c1 c2 c3 c4 c5 c6 c7 c8 c9 c10 c11 c12 ASW cSW S 0 mm W (hPW.out W hW) hmay (hSW.out W hW) (hVW.out W hW) (Hr hml (hlW.out W hW)) (hMW.out W hW) ho)
 have hL2:=aa (fun (W:World) (hW:Below w2.heap.size w2 W)=>Bh A1 A2 A3 A4 A5 A6 A7 A8 A9 A10 A11 A12 p c1 c2 c3 c4 c5 c6 c7 c8 c9 c10 c11 c12 ASW cSW S 39 mm W (hSW.out W hW) (Hr hml (hlW.out W hW)) (hMW.out W hW))
 have hC1:=aa (fun (W:World) (hW:Below w2.heap.size w2 W)=>Fl mm W (hMW.out W hW))
 have hC2:=aa (fun (W:World) (hW:Below w2.heap.size w2 W)=>Fo mm W (hMW.out W hW))
 rw [←hx0] at hC1
 rw [←hx1] at hC2
 have hx0':S.extract 0 S.size=S:=by rw [hx0,hS]
 rw [hx0'] at hC1
 replace hx0:=aa hx0
 replace hx1:=aa hx1
 replace hx0':=aa hx0'
 replace hs2:=aa hs2
 replace hsS:=aa hsS
 obtain ⟨⟨y0,y1,y2,y3,y4,y5,y6,y7,y8,y9,y10,y11⟩,⟨f0,f1,f2⟩,ff,ly,lf,hB⟩:=hZ.out w2 (Hs _ _)
 clear hS hcp hc1 hc2 hf2 hb1 hb2 hB2 lp hP hsw hV hm hml ho hmay
 go_enter func16,ntmps16
 go_upto_region 4 with (go_at_call 22;refine hM.out.mono ?_;rintro e w3 ⟨rfl,hb3⟩)
 clear y0 y1 y2 y3 y4 y5 y6 y7 y8 y9 y10 y11 f0 f1 f2 ff ly lf hB
 go_wp2
 go_loopw [6,8,9,10,11,12,13] (fun v6 v8 _ _ _ _ _ wr=>∃ (j:Nat) (A:Option Addr) (c:Nat) (fs:List Bc),v8=.int .i64 ((rY j:Nat):Int)∧v6=.slice A j c∧j≤2∧Hid (sE wr w2.heap.size (.slice A j c) fs)∧Hid (fs.length=j)∧Hid (Below w2.heap.size w2 wr)∧Hid (1≤j→∃ A1 n1 d1 A2 n2 d2,fs[0]? =some ⟨1,0,0,0,A1,n1,d1,4,0,0,A2,n2,d2⟩)∧Hid (2≤j→fs[1]? =some ⟨2,0,3,0,none,0,0,0,0,0,none,0,0⟩)) (fun _ v8 _ _ _ _ _ _=>52-(RowKit.intOf v8).toNat)
 case atStart=>exact ⟨0,none,0,[],rfl,rfl,Hz _,aa (sE.nil_ _ _),aa rfl,aa hb3,aa (fun h=>absurd h (by decide)),aa (fun h=>absurd h (by decide))⟩
 case round=>
  obtain ⟨j,A,c,fs,rfl,rfl,hj,hS,hl,hB,h0,h1⟩:=hrel
  rcases (show j=0∨j=1∨j=2 by omega) with rfl|rfl|rfl
  ·skip
   rw [show ((rY 0:Nat):Int)=0 from rfl]
   obtain ⟨⟨y0,y1,y2,y3,y4,y5,y6,y7,y8,y9,y10,y11⟩,-,-,ly,-,-⟩:=hZ.out wr hB.out
   have d0:(0:Int)<(S.size:Int):=by have:=hsS.out;omega
   have d0':decide ((0:Int)<(S.size:Int))=true:=decide_eq_true d0
   have d1:0≤S.size:=by have:=hsS.out;omega
   have d1':(0:Int)≤(S.size:Int):=by omega
   have hcc:=aa (hC1.out wr hB.out)
   have hBz:=hB.out.size
   have hD:=aa (fun n=>hB.out.trans ((au (Hs wr.heap.size wr) n).mono hBz))
   have hXs:(DA).size=38:=rfl
   go_upto_region 6 with (go_at_call 28;refine hcc.out.mono ?_;rintro e w4 ⟨rfl,n4,rfl⟩)
   obtain ⟨w4,hw4⟩:∃ w4:World,w4=wr.drewN n4:=⟨_,rfl⟩
   have hB4:Below w2.heap.size w2 w4:=hw4 ▸ hD.out n4
   have hS4:sE w4 w2.heap.size (.slice A 0 c) fs:=hS.out.below (hw4 ▸ au (Hs wr.heap.size wr) n4) (Ht _)
   rw [←hw4]
   clear y0 y1 y2 y3 y4 y5 y6 y7 y8 y9 y10 y11 ly
   obtain ⟨⟨y0,y1,y2,y3,y4,y5,y6,y7,y8,y9,y10,y11⟩,-,-,ly,-,-⟩:=hZ.out w4 hB4
   have hln:=aa (hL1.out w4 hB4)
   replace hw4:=aa hw4
   clear hS hD hcc
   go_upto_region 9 with (go_at_call 29;refine hln.out.mono ?_;rintro e w5 ⟨E1,n1,e1,E2,n2,e2,rfl,hb5⟩)
   obtain ⟨w6,hw6,hs6,hb6,hc6,-⟩:=af w5 #[.int .u8 1,.int .i64 0,.int .i64 0,.int .i64 0,.slice E1 n1 e1,.int .i64 4,.int .i64 0,.int .i64 0,.slice E2 n2 e2] 51
   obtain ⟨w7,hw7,hs7,hb7,hc7,-⟩:=af w6 #[.int .i64 0,.int .i64 0,.int .i64 0] 60
   have lu:w5.heap.size<w7.heap.size:=by omega
   have lv:w5.heap.size+1<w7.heap.size:=by omega
   obtain ⟨u0,u1,u2,u3,u4,u5,u6,u7,u8⟩:=bW fun i=>(bj hb7 w5.heap.size i (by omega)).trans (hc6 i)
   rw [hs6] at hc7
   obtain ⟨v0,v1,v2⟩:=vv hc7
   rw [hw6,hw7]
   have h47:Below w4.heap.size w4 w7:=hb5.trans ((hb6.trans (hb7.mono (by omega))).mono hb5.size)
   have hB7:=aa (hB4.trans (h47.mono hB4.size))
   have hS7:=hS4.below h47 (Ht _)
   replace hs7:=aa hs7
   clear y0 y1 y2 y3 y4 y5 y6 y7 y8 y9 y10 y11 ly hc6 hc7 hb5 hb6 hb7 hln
   obtain ⟨v8,w8,hrun,hS8,hb8⟩:=oG ⟨1,0,0,0,E1,n1,e1,4,0,0,E2,n2,e2⟩ hS7 hB7.out.size (by have:=hl.out;omega)
   obtain ⟨A8,c8,rfl⟩:=hS8.form
   have hl8:(fs++ [(⟨1,0,0,0,E1,n1,e1,4,0,0,E2,n2,e2⟩:Bc)]).length=1:=by rw [HM,hl.out];rfl
   rw [hl8] at hS8 hrun
   have hS9:=aa hS8
   replace hl8:=aa hl8
   clear hS8 hS7 hS4 h47
   go_wp2
   go_roundw
   ·exact ⟨1,A8,c8,fs++ [⟨1,0,0,0,E1,n1,e1,4,0,0,E2,n2,e2⟩],by simp [rY],rfl,by omega,hS9,hl8,aa (hB7.out.trans hb8),aa (fun _=>⟨E1,n1,e1,E2,n2,e2,by rw [Ik (by rw [hl.out];omega),hl.out];rfl⟩),aa (fun h=>absurd h (by omega))⟩
   ·simp [RowKit.intOf,rY]<;>omega
  ·skip
   rw [show ((rY 1:Nat):Int)=39 from rfl]
   obtain ⟨⟨y0,y1,y2,y3,y4,y5,y6,y7,y8,y9,y10,y11⟩,-,-,ly,-,-⟩:=hZ.out wr hB.out
   have d0:(39:Int)<(S.size:Int):=by have:=hsS.out;omega
   have d0':decide ((39:Int)<(S.size:Int))=true:=decide_eq_true d0
   have d1:39≤S.size:=by have:=hsS.out;omega
   have d1':(39:Int)≤(S.size:Int):=by omega
   have hcc:=aa (hC2.out wr hB.out)
   have hBz:=hB.out.size
   have hD:=aa (fun n=>hB.out.trans ((au (Hs wr.heap.size wr) n).mono hBz))
   have hXs:(DB).size=12:=rfl
   go_upto_region 6 with (go_at_call 28;refine hcc.out.mono ?_;rintro e w4 ⟨rfl,n4,rfl⟩)
   obtain ⟨w4,hw4⟩:∃ w4:World,w4=wr.drewN n4:=⟨_,rfl⟩
   have hB4:Below w2.heap.size w2 w4:=hw4 ▸ hD.out n4
   have hS4:sE w4 w2.heap.size (.slice A 1 c) fs:=hS.out.below (hw4 ▸ au (Hs wr.heap.size wr) n4) (Ht _)
   rw [←hw4]
   clear y0 y1 y2 y3 y4 y5 y6 y7 y8 y9 y10 y11 ly
   obtain ⟨⟨y0,y1,y2,y3,y4,y5,y6,y7,y8,y9,y10,y11⟩,-,-,ly,-,-⟩:=hZ.out w4 hB4
   have hln:=aa (hL2.out w4 hB4)
   replace hw4:=aa hw4
   clear hS hD hcc
   go_upto_region 9 with (go_at_call 29;refine hln.out.mono ?_;rintro e w5 ⟨rfl,hb5⟩)
   obtain ⟨w6,hw6,hs6,hb6,hc6,-⟩:=af w5 #[.int .u8 2,.int .i64 0,.int .i64 3,.int .i64 0,.slice none 0 0,.int .i64 0,.int .i64 0,.int .i64 0,.slice none 0 0] 51
   obtain ⟨w7,hw7,hs7,hb7,hc7,-⟩:=af w6 #[.int .i64 0,.int .i64 0,.int .i64 0] 60
   have lu:w5.heap.size<w7.heap.size:=by omega
   have lv:w5.heap.size+1<w7.heap.size:=by omega
   obtain ⟨u0,u1,u2,u3,u4,u5,u6,u7,u8⟩:=bW fun i=>(bj hb7 w5.heap.size i (by omega)).trans (hc6 i)
   rw [hs6] at hc7
   obtain ⟨v0,v1,v2⟩:=vv hc7
   rw [hw6,hw7]
   have h47:Below w4.heap.size w4 w7:=hb5.trans ((hb6.trans (hb7.mono (by omega))).mono hb5.size)
   have hB7:=aa (hB4.trans (h47.mono hB4.size))
   have hS7:=hS4.below h47 (Ht _)
   replace hs7:=aa hs7
   clear y0 y1 y2 y3 y4 y5 y6 y7 y8 y9 y10 y11 ly hc6 hc7 hb5 hb6 hb7 hln
   obtain ⟨v8,w8,hrun,hS8,hb8⟩:=oG ⟨2,0,3,0,none,0,0,0,0,0,none,0,0⟩ hS7 hB7.out.size (by have:=hl.out;omega)
   obtain ⟨A8,c8,rfl⟩:=hS8.form
   have hl8:(fs++ [(⟨2,0,3,0,none,0,0,0,0,0,none,0,0⟩:Bc)]).length=2:=by rw [HM,hl.out];rfl
   rw [hl8] at hS8 hrun
   have hS9:=aa hS8
   replace hl8:=aa hl8
   clear hS8 hS7 hS4 h47
   go_wp2
   go_roundw
   ·exact ⟨2,A8,c8,fs++ [⟨2,0,3,0,none,0,0,0,0,0,none,0,0⟩],by simp [rY],rfl,by omega,hS9,hl8,aa (hB7.out.trans hb8),aa (fun _=>by obtain ⟨E1,n1,e1,E2,n2,e2,he⟩:=h0.out (by omega);exact ⟨E1,n1,e1,E2,n2,e2,by rw [Ip (by rw [hl.out];omega)];exact he⟩),aa (fun _=>by rw [Ik (by rw [hl.out];omega),hl.out];rfl)⟩
   ·simp [RowKit.intOf,rY]<;>omega
  ·rw [show ((rY 2:Nat):Int)=52 from rfl]
   obtain ⟨-,⟨f0,f1,f2⟩,ff,ly,lf,hBw⟩:=hZ.out wr hB.out
   have d0:decide ((52:Int)<(S.size:Int))=false:=decide_eq_false (by have:=hsS.out;omega)
   have d1:¬(52:Int)<(S.size:Int):=by have:=hsS.out;omega
   have hS2:=aa (fun (W:World) (hG:aE (w.heap.size+1) wr W)=>(show sE W w2.heap.size (.slice A 2 c) fs from bd hS.out hG (by have:=hs2.out;omega)))
   have hBw2:=aa hBw
   go_upto_region 13 with fail
   go_region
   all_goals go_wp2
   all_goals (
    obtain ⟨E1,n1,e1,E2,n2,e2,hx⟩:=h0.out (by omega)
    have hfs:fs= [⟨1,0,0,0,E1,n1,e1,4,0,0,E2,n2,e2⟩,⟨2,0,3,0,none,0,0,0,0,0,none,0,0⟩]:=by
     have hy:=h1.out (by omega)
     have hln:=hl.out
     match fs,hln with
     | [a,b],_=>
      simp at hx hy
      rw [hx,hy]
    have hG0:aE (w.heap.size+1) wr (((wr.setCell ⟨w.heap.size+1,0,none⟩ (.int .i64 0)).setCell ⟨w.heap.size+1,1,none⟩ (.int .i64 0)).setCell ⟨w.heap.size+1,2,none⟩ (.int .i64 0)):=((aE.set _ _ _ _).trans (aE.set _ _ _ _)).trans (aE.set _ _ _ _)
    have hG:aE (w.heap.size+1) wr (((wr.setCell ⟨w.heap.size+1,0,none⟩ (.int .i64 0)).setCell ⟨w.heap.size+1,1,none⟩ (.int .i64 0)).setCell ⟨w.heap.size+1,2,none⟩ (.int .i64 0)).drew:=⟨hG0.os,hG0.tape,hG0.output,hG0.size,hG0.block⟩
    obtain ⟨A',c',hv,hSl⟩:=(hS2.out _ hG).sl
    injection hv with v1 v2 v3
    subst v1
    rw [hfs] at hSl
    refine bodyPost_ret (v:=.tuple #[.slice A 2 c,.agg #[.int .i64 0,.int .i64 0,.int .i64 0]]) (by simp [results,results16,go_sem,f0,f1,f2,ff,lf]) rfl ⟨A,⟨c,rfl⟩,⟨E1,n1,e1,E2,n2,e2,hSl⟩,?_⟩
    exact hBw2.out.trans (hG.below (by omega) (by omega)))
end
theorem ug (w:World):Calls prog 17 #[] w fun e w'=>∃ A2 A3 A4 A5 A10 A11 A12,e=.returned (.agg #[.slice none 0 0,.slice A2 1 1,.slice A3 1 1,.slice A4 1 1,.slice A5 1 1,.slice none 0 0,.slice none 0 0,.slice none 0 0,.slice none 0 0,.slice A10 1 1,.slice A11 1 1,.slice A12 1 1])∧cz w' w'.heap.size none A2 A3 A4 A5 none none none none A10 A11 A12 EL∧Below w.heap.size w w':=by
 go_enter func17,ntmps17
 go_wp2
 refine bodyPost_ret (v:=.agg #[.slice none 0 0,.slice (some ⟨w.heap.size+1,0,none⟩) 1 1,.slice (some ⟨w.heap.size+2,0,none⟩) 1 1,.slice (some ⟨w.heap.size+4,0,none⟩) 1 1,.slice (some ⟨w.heap.size+11,0,none⟩) 1 1,.slice none 0 0,.slice none 0 0,.slice none 0 0,.slice none 0 0,.slice (some ⟨w.heap.size+12,0,none⟩) 1 1,.slice (some ⟨w.heap.size+13,0,none⟩) 1 1,.slice (some ⟨w.heap.size+14,0,none⟩) 1 1]) (by simp [results,results17,go_sem]) rfl ⟨_,_,_,_,_,_,_,rfl,Ef (n:=w.heap.size) (by simp) ?_ ?_ ?_ ?_ ?_ ?_ ?_ ?_ ?_ ?_ ?_ ?_ ?_,?_⟩
 case refine_1=>
  iterate 13 refine bU (by simp) ?_
  refine be (by simp)
 case refine_2=>
  iterate 12 refine bU (by simp) ?_
  refine be (by simp)
 case refine_3=>
  iterate 11 refine bU (by simp) ?_
  refine be (by simp)
 case refine_4=>
  iterate 10 refine bU (by simp) ?_
  refine be (by simp)
 case refine_5=>
  iterate 8 refine bU (by simp) ?_
  refine be (by simp)
 case refine_6=>
  iterate 7 refine bU (by simp) ?_
  refine be (by simp)
 case refine_7=>
  iterate 6 refine bU (by simp) ?_
  refine be (by simp)
 case refine_8=>
  iterate 5 refine bU (by simp) ?_
  refine be (by simp)
 case refine_9=>
  iterate 4 refine bU (by simp) ?_
  refine be (by simp)
 case refine_10=>
  iterate 3 refine bU (by simp) ?_
  refine be (by simp)
 case refine_11=>
  iterate 2 refine bU (by simp) ?_
  refine be (by simp)
 case refine_12=>
  iterate 1 refine bU (by simp) ?_
  refine be (by simp)
 case refine_13=>
  refine be (by simp)
 case refine_14=>
  iterate 15 refine Below.alloc ?_ (by simp<;>omega) _
  exact Hs _ _
def vg (x y:Pt):Bool:=decide (x.vh=y.vh)&&(decide (x.vl=y.vl)&&(decide (x.mh=y.mh)&&decide (x.ml=y.ml)))
def nE (x y:Int×Int):Bool:=decide (x.1=y.1)&&decide (x.2=y.2)
def ji (x y:aA):Bool:=decide (x.tab=y.tab)&&(dr vg x.pats y.pats&&(decide (x.len=y.len)&&(decide (x.prio=y.prio)&&(decide (x.run.act=y.run.act)&&dr nE x.run.args y.run.args))))
def vi (x y:List aA):Bool:=dr ji x y
theorem pK {α:Type} {f:α→α→Bool} (hf:∀ x y,f x y=true↔x=y) (xs ys:List α):dr f xs ys=true↔xs=ys:=by
 unfold dr
 rw [Hy,decide_eq_true_eq,aY]
 constructor
 ·rintro ⟨h1,h2⟩
  refine List.ext_getElem h1 fun i a b=> ?_
  have:=h2 i a
  rw [am _ a,am _ b] at this
  exact (hf _ _).1 this
 ·rintro rfl
  refine ⟨rfl,fun i hi=> ?_⟩
  rw [am _ hi,am _ hi]
  exact (hf _ _).2 rfl
theorem De (x y:Pt):vg x y=true↔x=y:=by
 obtain ⟨a,b,c,d⟩:=x
 obtain ⟨e,f,g,h⟩:=y
 simp [vg]
theorem Df (x y:Int×Int):nE x y=true↔x=y:=by
 obtain ⟨a,b⟩:=x
 obtain ⟨c,d⟩:=y
 simp [nE]
theorem Bt (x y:aA):ji x y=true↔x=y:=by
 obtain ⟨a,b,c,d,e,f⟩:=x
 obtain ⟨a',b',c',d',e',f'⟩:=y
 unfold ji
 simp only [Hy,decide_eq_true_eq,pK De,pK Df,aA.mk.injEq,Rn.mk.injEq]
theorem xS (x y:List aA):vi x y=true↔x=y:=pK Bt x y
theorem uh (x:List aA):vi x x=true:=(xS x x).2 rfl
end Go.Proofs.YtijcdfdbkffiaaaGreatDoor

import Derived.Test.YtiebolhmdhdagaaGreatDoorEwp28
import Derived.Test.YtiebolhmdhdagaaGreatDoorEwp29
set_option linter.all false
set_option maxHeartbeats 8000000
set_option maxRecDepth 100000
open Go.Proofs.Tryz
namespace Go.Proofs.YtiebolhmdhdagaaGreatDoor
open _root_.Nat renaming lt_of_lt_of_le→He, le_refl→Hh, le_trans→Hj, le_of_lt→Hs
open _root_.Go.RowKit.Below renaming refl→Hf
open _root_.Go.Calls renaming regrown_of→Hi
open _root_.List renaming length_append→Hu, length_singleton→Ie
open _root_.Bool renaming false_eq_true→Hy
open _root_.Int renaming toNat_natCast→HG
open Go.RowKit
section
attribute [local go_sem] run_panic_iface
attribute [local go_sem ↓] cU
def BK (t:TypeId) (a b:Value):Sem Value:=Instr.makeSlice t a b
theorem wD (t:TypeId) (a b:Value):Instr.makeSlice t a b=BK t a b:=rfl
attribute [local go_sem ↓] wD
theorem yS:(prog.info? 38).map (fun i=>(i.zero,i.size,i.bytes))=some (some (.slice none 0 0),1,24):=by kernel_rfl
theorem qa (W:World) (n:Nat) (hn:n≤100000):(BK 34 (.int .i64 (n:Int)) (.int .i64 (n:Int))).run prog W=.ok (.slice (some ⟨W.heap.size,0,none⟩) n n) (W.alloc (.cells (madeCells #[.slice none 0 0] n) 38)):=by
 obtain ⟨ii,hii,hzi0,hzi1,hzi2⟩:=info_parts yS
 have h:=run_makeSlice (P:=prog) W 34 38 ii (.slice none 0 0) underlying34 hii hzi0 .i64 .i64 (n:Int) (n:Int) (by omega) (Int.le_refl _) (by rw [hzi1];simp;omega) (by rw [hzi2];omega) (by omega)
 rw [hzi1] at h
 simpa [BK,Value.cells] using h
theorem tB {l:List ByteArray} {x:ByteArray} (h:x∈l):∃ i:Nat,aU l x=(i:Int)∧i<l.length:=by
 unfold aU
 rw [if_pos h]
 exact ⟨_,rfl,zz x l h⟩
theorem Ft (A1 A2 A3 A4 A5 A6 A7 A8 A9 A10 A11 A12:Option Addr) (p:Lp) (c1 c2 c3 c4 c5 c6 c7 c8 c9 c10 c11 c12:Nat) (ASW:Option Addr) (cSW:Nat) (sw:List ByteArray) {g:Nat} {l:List Tk} {out:List (List aR)} {mm:Int} (f0:Nat) (SW:Value) (hSWv:SW=.slice ASW sw.length cSW) (w:World) (h:bb w g l #[.slice A1 p.heads.length c1,.slice A2 p.metas.length c2,.slice A3 p.steps.length c3,.slice A4 p.acts.length c4,.slice A5 p.tabs.length c5,.slice A6 p.control.length c6,.slice A7 p.emit.length c7,.slice A8 p.nh.length c8,.slice A9 p.nf.length c9,.slice A10 p.nm.length c10,.slice A11 p.na.length c11,.slice A12 p.nt.length c12,SW]) (hg0:2<g) (hm:w.cell? ⟨2,0,none⟩=some (.int .i64 mm)) (hP:cJ w g A1 A2 A3 A4 A5 A6 A7 A8 A9 A10 A11 A12 p) (hmay:bW p=true) (hSw:Sl 1 bZ w g ASW sw) (hsw:sw.length≤1000) (ho:jx p sw f0 (List.replicate sw.length []) l=some out):
  Calls prog 40 #[.pointer (some ⟨g,0,none⟩)] w fun r w'=>∃ vs,r=.returned (.slice (some ⟨w.heap.size,0,none⟩) sw.length sw.length)∧eH w' w.heap.size w.heap.size vs out∧out.length=sw.length∧ay g w w':=by
 have lt:=h.lt
 have hEn:=aa (fun (W:World) (hG:ay g w W) (lx l1:List Tk) (e:aR) (hR:bb W g lx #[.slice A1 p.heads.length c1,.slice A2 p.metas.length c2,.slice A3 p.steps.length c3,.slice A4 p.acts.length c4,.slice A5 p.tabs.length c5,.slice A6 p.control.length c6,.slice A7 p.emit.length c7,.slice A8 p.nh.length c8,.slice A9 p.nf.length c9,.slice A10 p.nm.length c10,.slice A11 p.na.length c11,.slice A12 p.nt.length c12,SW]) (he:oM p lx=some (e,l1))=>Dt A1 A2 A3 A4 A5 A6 A7 A8 A9 A10 A11 A12 p c1 c2 c3 c4 c5 c6 c7 c8 c9 c10 c11 c12 SW W hR hg0 ((hG.cell (i:=0) (by omega) (by omega)).trans hm) (hP.grgE A1 A2 A3 A4 A5 A6 A7 A8 A9 A10 A11 A12 p c1 c2 c3 c4 c5 c6 c7 c8 c9 c10 c11 c12 hG lt) hmay he)
 have hNm:=aa (fun (W:World) (hG:ay g w W) (lx:List Tk) (hR:bb W g lx #[.slice A1 p.heads.length c1,.slice A2 p.metas.length c2,.slice A3 p.steps.length c3,.slice A4 p.acts.length c4,.slice A5 p.tabs.length c5,.slice A6 p.control.length c6,.slice A7 p.emit.length c7,.slice A8 p.nh.length c8,.slice A9 p.nf.length c9,.slice A10 p.nm.length c10,.slice A11 p.na.length c11,.slice A12 p.nt.length c12,SW]) (h1:rm (af lx)=true) (h2:iH lx∈sw)=>sJ (cap:=cSW) hR hg0 ((hG.cell (i:=0) (by omega) (by omega)).trans hm) (hSw.grgE av hG lt) h1 h2)
 have hVc:=aa (fun (W:World) (lx:List Tk) (hR:bb W g lx #[.slice A1 p.heads.length c1,.slice A2 p.metas.length c2,.slice A3 p.steps.length c3,.slice A4 p.acts.length c4,.slice A5 p.tabs.length c5,.slice A6 p.control.length c6,.slice A7 p.emit.length c7,.slice A8 p.nh.length c8,.slice A9 p.nf.length c9,.slice A10 p.nm.length c10,.slice A11 p.na.length c11,.slice A12 p.nt.length c12,SW])=>hR.cells13)
 generalize (#[.slice A1 p.heads.length c1,.slice A2 p.metas.length c2,.slice A3 p.steps.length c3,.slice A4 p.acts.length c4,.slice A5 p.tabs.length c5,.slice A6 p.control.length c6,.slice A7 p.emit.length c7,.slice A8 p.nh.length c8,.slice A9 p.nf.length c9,.slice A10 p.nm.length c10,.slice A11 p.na.length c11,.slice A12 p.nt.length c12,SW]:Array Value)=V at*
 subst hSWv
 have hmk:=qa w sw.length (by omega)
 have hO0:=aa (eH.made (W:=w) (B:=w.heap.size) sw.length (Hh _))
 have hba:Below w.heap.size w (w.alloc (.cells (madeCells #[.slice none 0 0] sw.length) 38)):=(Hf _ _).alloc (Hh _) _
 obtain ⟨wa,hwa⟩:∃ wa,w.alloc (.cells (madeCells #[.slice none 0 0] sw.length) 38)=wa:=⟨_,rfl⟩
 rw [hwa] at hmk hO0 hba
 have hR0:=aa (h.below hba lt)
 have hG0:=aa (ay.of (g:=g) hba)
 replace hwa:=aa hwa
 obtain ⟨y0,y1,y2,y3,y4,y5,y6,y7,y8,y9,y10,y11,y12⟩:=hVc.out w l h
 have ho':=aa ho
 clear y0 y1 y2 y3 y4 y5 y6 y7 y8 y9 y10 y11 hm hP hSw h hba ho
 go_enter func40,ntmps40
 go_wp2
 go_loopw [4,5] (fun _ _ wr=>∃ (f:Nat) (o1:List (List aR)) (vs:List Value) (lx:List Tk),Hid (eH wr w.heap.size w.heap.size vs o1)∧Hid (bb wr g lx V)∧Hid (ay g w wr)∧Hid (o1.length=sw.length)∧Hid (jx p sw f o1 lx=some out)) (fun _ _ wr=>nN g wr)
 case atStart=>exact ⟨f0,_,_,l,hO0,hR0,hG0,aa (by simp),ho'⟩
 case round=>
  clear hO0 hR0 hG0 ho' hmk y12
  obtain ⟨f,o1,vs,lx,hO,hR,hG,hln,hf⟩:=hrel
  have hl0:=hR.out.left
  cases f with
  |zero=>cases hf.out
  |succ f=>
   obtain ⟨b',o',cp',hOp⟩:=hR.out.open_
   obtain ⟨ltr,bg,pos,le,ml,d0,df,k0,k1,k2,k3,k4,k5⟩:=hOp
   have hbl:b'<wr.heap.size:=by omega
   have lz:(0:Int)<(lx.length:Int):=by omega
   rcases yR hf.out with ⟨h0,hres⟩|⟨h0,hn1,hn2,h64,e,l1,he,hnx⟩
   ·have ek:(((af lx).kind:Int) !=0)=false:=by rw [h0];rfl
    subst hres
    clear hf
    generalize af lx=tq at k0 k1 k2 k3 k4 k5 ek
    generalize (tq.kind:Int)=kq at k0 ek
    clear k1 k2 k3 k4 k5 hEn hNm hVc
    go_wp2
    go_ret
    exact ⟨_,rfl,hO.out,hln.out,hG.out⟩
   ·have ek:(((af lx).kind:Int) !=0)=true:=by rw [bne_iff_ne];omega
    obtain ⟨i,hi,hil⟩:=tB hn2
    have hadv:=ik hR.out.1 h0
    have hle:=Dr he
    have hNm1:=aa (fun (W:World) (hG1:ay g w W) (hR1:bb W g lx V)=>hNm.out W hG1 lx hR1 hn1 hn2)
    rw [hi] at hNm1 h64 hnx
    rw [HG] at h64 hnx
    have hEn1:=aa (fun (W:World) (hG1:ay g w W) (hR1:bb W g (ae lx) V)=>hEn.out W hG1 _ _ e hR1 he)
    have hA:=aa (fun (W:World)=>aY (af lx) 5 W)
    replace hnx:=aa hnx
    clear hf hn1 hn2 hi he h0
    generalize af lx=tq at k0 k1 k2 k3 k4 k5 hA ek
    obtain ⟨kq,sq,wq,mq,pq⟩:=tq
    unfold g8 at hA
    simp only at k0 k1 k2 k3 k4 k5 hA ek
    generalize (⟨sq.toArray⟩:ByteArray)=SQ at k1 hA
    generalize ((mq / 18446744073709551616:Nat):Int)=hiq at k3 hA
    generalize ((mq % 18446744073709551616:Nat):Int)=loq at k4 hA
    obtain ⟨w4,hw4,hb4,hs4,hl4,x0,x1,x2,x3,x4,x5⟩:=bD wr kq wq hiq loq pq SQ
    have hK4:=aa (show fi w4 wr.heap.size kq SQ wq hiq loq pq from by rw [←hw4];exact bU wr _ _ _ _ _ _)
    go_upto_region 4 with fail
    have hO4:=aa (hO.out.grg (ay.of (g:=g) hb4.out) lt)
    have hR4:=aa (hR.out.below hb4.out hR.out.lt)
    have hG4:=aa (hG.out.trans (ay.of (g:=g) hb4.out))
    have hrK:g<wr.heap.size:=ltr
    have hrO:w.heap.size<wr.heap.size:=hO.out.lt
    clear hO hR hG hw4 hb4 hs4 hl4 x0 x1 x2 x3 x4 x5 k0 k1 k2 k3 k4 k5 d0 df hbl lz bg pos le ml ltr
    generalize hrr:wr.heap.size=rK at*
    obtain ⟨y0,y1,y2,y3,y4,y5,y6,y7,y8,y9,y10,y11,y12⟩:=hVc.out _ _ hR4.out
    have ltr:=hR4.out.lt
    clear y0 y1 y2 y3 y4 y5 y6 y7 y8 y9 y10 y11
    go_upto_region 5 with (go_at_call 90;refine (hNm1.out _ hG4.out hR4.out).mono ?_;rintro e0 w5 ⟨rfl,hG5,hR5⟩)
    have hO5:=aa (hO4.out.grg hG5 lt)
    have hK5:=aa (hK4.out.grg hG5 (by omega))
    have hG5':=aa (hG4.out.trans hG5)
    replace hR5:=aa hR5
    clear hO4 hK4 hG4 hR4 hG5 hNm1 y12 ltr
    have hio:i<o1.length:=by rw [hln.out];exact hil
    have hiz:(i:Int)<(sw.length:Int):=by omega
    obtain ⟨A,c,hv,cc,fc⟩:=hO5.out.cell hio
    obtain ⟨n,hn⟩:∃ n,(o1.getD i []).length=n:=⟨_,rfl⟩
    have h1000:(o1.getD i []).length<1000:=by omega
    rw [hn] at hv cc h64
    have hnlen:(n:Int)<64:=by omega
    have dl:decide ((n:Int)<64)=true:=decide_eq_true hnlen
    replace hn:=aa hn
    obtain ⟨x0,x1,x2,x3,x4,x5⟩:=hK5.out.cells
    have xl:=hK5.out.lt
    have ol:=hO5.out.lt
    have hgw:=aE (show Below w5.heap.size w5 w5 from Hf _ _) (Hh _)
    go_wp2_with fail
    refine bV ?_
    repeat (any_goals (first|go_big_quiet_step ((go_at_call 91;with_reducible exact Hi (hA.out _)))|quiet_step ((go_at_call 91;with_reducible exact Hi (hA.out _)))))
    refine wpQuiet_nil ?_
    intro w6 hw6
    replace hw6:=ac hw6
    have hO6:=aa (hO5.out.grg (ay.of (g:=g) hw6) lt)
    have hR6:=aa (hR5.out.below hw6 hR5.out.lt)
    have hG6:=aa (hG5'.out.trans (ay.of (g:=g) hw6))
    have cc6:=(hw6.cell (p:=⟨w.heap.size,i,none⟩) ol).trans cc
    have ol6:=He ol hw6.size
    clear x0 x1 x2 x3 x4 x5 xl hgw hA cc fc ol hO5 hR5 hG5' hK5 hw6
    have hEp:=aa (fun (W:World) (hW:Below w6.heap.size w6 W)=>show Calls prog 92 #[.pointer (some ⟨g,0,none⟩)] W fun r w3=>∃ v1 v2 A' c' wB,r=.returned (.agg #[.int .i64 e.tab,v1,.int .i64 e.len,.int .i64 e.prio,.int .i64 e.run.act,v2])∧(eO #[38,38] 38 #[.slice A n c,.slice (some ⟨w3.heap.size,0,none⟩) 1 1]).run prog (w3.alloc (.cells #[.int .i64 e.tab,v1,.int .i64 e.len,.int .i64 e.prio,.int .i64 e.run.act,v2] 57))=.ok (.slice A' (n+1) c') wB∧
      Hid (∃ vs2,eH (wB.setCell ⟨w.heap.size,i,none⟩ (.slice A' (n+1) c')) w.heap.size w.heap.size vs2 (o1.set i (o1.getD i []++ [e]))∧bb (wB.setCell ⟨w.heap.size,i,none⟩ (.slice A' (n+1) c')) g l1 V∧ay g w (wB.setCell ⟨w.heap.size,i,none⟩ (.slice A' (n+1) c')))∧w3.cell? ⟨w.heap.size,i,none⟩=some (.slice A n c)∧w.heap.size<w3.heap.size∧wB.cell? ⟨w.heap.size,i,none⟩=some (.slice A n c)∧wB.frozen? ⟨w.heap.size,i,none⟩=false∧w.heap.size<wB.heap.size from by
     refine (hEn1.out W (hG6.out.trans (ay.of hW)) (hR6.out.below hW hR6.out.lt)).mono ?_
     rintro r w3 ⟨v1,v2,rfl,hp1,hn1,hG3,hR3⟩
     have hO3:=(hO6.out.grg (ay.of (g:=g) hW) lt).grg hG3 lt
     have hzW:w.heap.size≤W.heap.size:=Hj (Hs ol6) hW.size
     obtain ⟨A3,c3',hv3,cc3,-⟩:=hO3.cell hio
     rw [hn.out] at hv3 cc3
     rw [hv] at hv3
     injection hv3 with hv3
     injection hv3 with r1 r2 r3
     subst r1 r3
     obtain ⟨v',wB,hrun,hOB,hbB,q1,q2,q3⟩:=hO3.push (e:=e) (Hj hzW hG3.size) hio hv ⟨hp1.1,du hp1.2 hzW⟩ ⟨hn1.1,du hn1.2 hzW⟩ h1000
     have hfB:∃ A' c',v'=.slice A' (n+1) c':=by
      obtain ⟨A',c',e1⟩:=(hOB.row i v' (o1.getD i []++ [e]) (List.getElem?_set_self (by rw [hO3.len];exact hio)) (List.getElem?_set_self hio)).form
      exact ⟨A',c',by rw [e1,Hu,Ie,hn.out]⟩
     obtain ⟨A',c',rfl⟩:=hfB
     have hRB:bb wB g l1 V:=hR3.below hbB lt
     have hGW:ay g w w3:=(hG6.out.trans (ay.of hW)).trans hG3
     have hGB:ay g w wB:=⟨hbB.os.trans hGW.os,hbB.tape.trans hGW.tape,hbB.output.trans hGW.output,Hj hGW.size hbB.size,fun q hq hn=>(hbB.block q hq).trans (hGW.block q hq hn)⟩
     exact ⟨v1,v2,A',c',wB,rfl,hrun,aa ⟨_,hOB,hRB.setNew lt _,hGB.setNew (Hh _) _⟩,cc3,hO3.lt,q1,q2,q3⟩)
    clear hEn1 hO6 hR6 hG6 hv
    go_wp2_with fail
    go_region_with (go_at_call 92;refine (hEp.out _ (by exact (Hf _ _).drew)).mono ?_;rintro r w11 ⟨v1,v2,A',c',wB,rfl,hrun2,hAB,y2,yl,z1,zf1,zl⟩)
    all_goals (
     go_wp2
     obtain ⟨vs2,hO2,hR2,hG2⟩:=hAB.out
     have hl2:=hR2.left
     go_roundw
     ·exact ⟨f,_,vs2,l1,aa hO2,aa hR2,aa hG2,aa (by rw [List.length_set];exact hln.out),hnx⟩
     ·rw [hl0,hl2];omega)
end
theorem Du (v:Value) (W:World):(Instr.typeAssert (.iface 43 v) 20 43 true).run prog W=.ok (.tuple #[v,.bool true]) W:=by kernel_rfl
theorem Dv (W:World):(Instr.typeAssert .nilIface 20 43 true).run prog W=.ok (.tuple #[.int .i64 0,.bool false]) W:=by kernel_rfl
theorem eC {P:Program} {ops:Array Oper} {Q:Exit→Act→List Frame→World→Prop} {l:List Nat} {a:Act} {cs:List Frame} {w:World} (h:∀ K:Exit→Act→List Frame→World→Prop,(∀ e a cs w,Q e a cs w→K e a cs w)→wpOpsS P ops K l a cs w):wpOpsS P ops Q l a cs w:=h Q fun _ _ _ _ h=>h
theorem n8 (b k:Nat) (s:ByteArray) (v:Value) (n:Int) (older:List PanicEntry) (w:World) (h:fX w b s k v) (hk:k≤s.size) (hs:s.size<4611686018427387904) (hn:n≠0):
  CallsD prog 87 #[.pointer (some ⟨b,0,none⟩),.pointer (some ⟨b+3,0,none⟩),.pointer (some ⟨b+1,0,none⟩),.pointer (some ⟨b+2,0,none⟩)] (.panicking ({ v:=.iface 43 (.int .i64 n),recovered:=false}::older)) w fun e u' w'=>
   e=.returned (.tuple #[])∧u'=.panicking ({ v:=.iface 43 (.int .i64 n),recovered:=true}::older)∧∃ w3,Below w.heap.size w w3∧w'=((((w3.setCell ⟨b+1,0,none⟩ (.slice none 0 0)).setCell ⟨b+2,0,none⟩ (.int .i64 n)).setCell ⟨b+2,1,none⟩ (.int .i64 (((be (s.data.toList.take k)).1:Nat):Int))).setCell ⟨b+2,2,none⟩ (.int .i64 (((be (s.data.toList.take k)).2:Nat):Int))):=by
 have hF:=aa (pB s k n w hk hs hn)
 unfold dg at hF
 generalize (((be (s.data.toList.take k)).1:Nat):Int)=pl at hF ⊢
 generalize (((be (s.data.toList.take k)).2:Nat):Int)=pc at hF ⊢
 have hb:=aa h
 obtain ⟨lt,c0,c1,e0,e1,e2,c3,f1,g0,g1,g2,f3⟩:=h
 refine callsD_of_wpS func87 rfl fun c₀ cs hu=> ?_
 apply wpS_seq
 apply wpS_region
 refine eC fun K hK=> ?_
 simp [wpOpsS,go_sem,Du,recoverD,hu,ntmps87]
 refine hK _ _ _ _ ?_
 clear hK K
 show Code.wpS _ _ _ _ _ _
 apply wpS_seq
 apply wpS_region
 refine eC fun K hK=> ?_
 simp [wpOpsS,go_sem]
 refine hK _ _ _ _ ?_
 clear hK K
 show Code.wpS _ _ _ _ _ _
 refine wpS_cond (t:=true) (by simp [Act.eval,Array.replicate]) ?_
 simp only [if_true]
 refine wpS_of_wp ?_
 go_wp2_with (go_at_call 37;refine hF.out.mono ?_;rintro e w3 ⟨rfl,hb3⟩;have kb:=hb.out.below hb3 lt;obtain ⟨y,yc0,yc1,ye0,ye1,ye2,yc3,yf1,yg0,yg1,yg2,yf3⟩:=kb)
 exact ⟨rfl,_,rfl,.tuple #[],by simp [results,results87],rfl,rfl,w3,hb3,rfl⟩
theorem yT (p q r t:Addr) (w:World):
  CallsD prog 87 #[.pointer (some p),.pointer (some q),.pointer (some r),.pointer (some t)] .returning w fun e u' w'=>e=.returned (.tuple #[])∧u'=.returning∧w'=w:=by
 refine callsD_of_wpS func87 rfl fun c₀ cs hu=> ?_
 apply wpS_seq
 apply wpS_region
 refine eC fun K hK=> ?_
 simp [wpOpsS,go_sem,Dv,recoverD,hu,ntmps87]
 refine hK _ _ _ _ ?_
 clear hK K
 show Code.wpS _ _ _ _ _ _
 apply wpS_seq
 apply wpS_region
 refine eC fun K hK=> ?_
 simp [wpOpsS,go_sem]
 refine hK _ _ _ _ ?_
 clear hK K
 show Code.wpS _ _ _ _ _ _
 refine wpS_cond (t:=false) (by simp [Act.eval,Array.replicate]) ?_
 simp only [Hy,if_false]
 refine wpS_of_wp ?_
 go_wp2
 exact ⟨rfl,.returning,by cases c₀;simp_all,.tuple #[],by simp [results,results87],rfl,rfl,rfl⟩
end Go.Proofs.YtiebolhmdhdagaaGreatDoor

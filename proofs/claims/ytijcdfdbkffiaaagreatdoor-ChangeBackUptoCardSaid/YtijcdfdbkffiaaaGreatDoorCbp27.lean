import Derived.Test.YtijcdfdbkffiaaaGreatDoorCbp26
set_option linter.all false
set_option maxHeartbeats 4000000
set_option maxRecDepth 100000
open Go.Proofs.Tryz
namespace Go.Proofs.YtijcdfdbkffiaaaGreatDoor
open _root_.Nat renaming lt_of_lt_of_le→Hr
open _root_.Go.RowKit.Below renaming refl→Hs
open _root_.Bool renaming true_and→Hx, and_eq_true→Hy, or_eq_true→HS, and_eq_false_iff→Ib
open _root_.List renaming getElem_mem→HE
open _root_.Int renaming eq_ofNat_of_zero_le→HH, toNat_natCast→HQ
open Go.RowKit
theorem xV (A1 A2 A3 A4 A5 A6 A7 A8 A9 A10 A11 A12:Option Addr) (p:Lp) (c1 c2 c3 c4 c5 c6 c7 c8 c9 c10 c11 c12:Nat) (c:bn) (AL B1 B2:Option Addr) (cL d1 d2 B:Nat) (l:List (List aA)) (w:World) (hBw:B≤w.heap.size) (h:cz w w.heap.size A1 A2 A3 A4 A5 A6 A7 A8 A9 A10 A11 A12 p) (hl:dB w w.heap.size B AL l) (hl100:l.length≤100) (hr:∀ x∈l,x.length≤1000) (hp:Sl 4 gT w B B1 c.e.pats) (hq:Sl 2 f8 w B B2 c.e.run.args) (hk:u8 c.kind) (k1:1≤c.kind) (k3:c.kind≤3) (hbad:lI p l c=false):
  Calls prog 11 #[.agg (aO A1 A2 A3 A4 A5 A6 A7 A8 A9 A10 A11 A12 p c1 c2 c3 c4 c5 c6 c7 c8 c9 c10 c11 c12),.slice AL l.length cL,eV B1 d1 B2 d2 c] w fun e w'=>e=.returned (.tuple #[.slice none 0 0,ui,.int .i64 2])∧Below w.heap.size w w':=by
 unfold aO
 have hO:=aa (fun (W:World)=>xN c B1 B2 d1 d2 W hk k1 k3)
 have hM:=aa (fun (W:World) (hW:Below w.heap.size w W)=>dA A1 A2 A3 A4 A5 A6 A7 A8 A9 A10 A11 A12 p c1 c2 c3 c4 c5 c6 c7 c8 c9 c10 c11 c12 W ((h.below hW).more hW.size))
 have hY:=aa (fun (bw:Nat) (W:World) (hW:Below w.heap.size w W)=>oH A1 A2 A3 A4 A5 A6 A7 A8 A9 A10 A11 A12 p c1 c2 c3 c4 c5 c6 c7 c8 c9 c10 c11 c12 c B1 B2 d1 d2 bw W ((h.below hW).more hW.size) (((hp.more ay hBw).below ay hW).more ay hW.size) (((hq.more aq hBw).below aq hW).more aq hW.size) k1 k3)
 obtain ⟨ks,kb,kf,kg,hkc⟩:∃ (ks:ByteArray) (kb:Bool) (kf kg:Nat),∀ bw,kC c.kind bw=#[.string ks,.bool kb,dF kf,dE kg bw]:=by
  rcases (show c.kind=1∨c.kind=2∨c.kind=3 by omega) with e|e|e
  ·rw [e];exact ⟨_,_,_,_,fun bw=>rfl⟩
  ·rw [e];exact ⟨_,_,_,_,fun bw=>rfl⟩
  ·rw [e];exact ⟨_,_,_,_,fun bw=>rfl⟩
 simp only [hkc] at hO hY
 clear hkc
 unfold lI at hbad
 rw [decide_eq_true k1,decide_eq_true k3] at hbad
 simp only [Hx] at hbad
 clear hp hq h hl hr k1 k3 hk
 unfold eV at hO hY ⊢
 obtain ⟨ck,cs,cp,ce⟩:=c
 simp only at hO hY hbad ⊢
 generalize (decide (ck=2) ||fv p [ce])=EM at hY hbad
 generalize ce.tab=t0 at*
 generalize ce.pats.length=t1 at*
 generalize ce.len=t2 at*
 generalize ce.prio=t3 at*
 generalize ce.run.act=t4 at*
 generalize ce.run.args.length=t5 at*
 generalize bR p=LM at hM hbad
 generalize l.length=n at*
 obtain ⟨wp,hwp,hsp,hbp,hcp,-⟩:=af w (aO A1 A2 A3 A4 A5 A6 A7 A8 A9 A10 A11 A12 p c1 c2 c3 c4 c5 c6 c7 c8 c9 c10 c11 c12) 33
 obtain ⟨wc,hwc,hsc,hbc,hcc,-⟩:=af wp #[.int .u8 ck,.int .i64 cs,.int .i64 cp,.int .i64 t0,.slice B1 t1 d1,.int .i64 t2,.int .i64 t3,.int .i64 t4,.slice B2 t5 d2] 51
 obtain ⟨wo,hwo,hso,hbo,hco,hfo⟩:=af wc #[.int .u8 0,.int .i64 0,.int .i64 0,.int .i64 0,.slice none 0 0,.int .i64 0,.int .i64 0,.int .i64 0,.slice none 0 0] 51
 have hcpo:=fun i=>(bj hbo w.heap.size i (by omega)).trans ((bj hbc w.heap.size i (by omega)).trans (hcp i))
 have hcco:=fun i=>(bj hbo wp.heap.size i (by omega)).trans (hcc i)
 have hsc2:wc.heap.size=w.heap.size+1+1:=by omega
 have l1:w.heap.size<wo.heap.size:=by omega
 have l2:w.heap.size+1<wo.heap.size:=by omega
 have l3:w.heap.size+1+1<wo.heap.size:=by omega
 have hw:Below w.heap.size w wo:=hbp.trans ((hbc.trans (hbo.mono (by omega))).mono (by omega))
 rw [hsp] at hcco
 rw [hsc2] at hco hfo
 have hZ:=aa (fun (W:World) (hW:Below wo.heap.size wo W)=>And.intro (aF fun i=>((hW.cell (p:=⟨w.heap.size,i,none⟩) l1).trans (hcpo i))) (And.intro (bW fun i=>((hW.cell (p:=⟨w.heap.size+1,i,none⟩) l2).trans (hcco i))) (And.intro (bW fun i=>(((ae hW).1 _ i l3)).trans (hco i)) (And.intro (fun i=>(((ae hW).2 _ i l3)).trans (hfo i)) (And.intro (Hr l1 hW.size) (And.intro (Hr l2 hW.size) (Hr l3 hW.size)))))))
 obtain ⟨⟨y0,y1,y2,y3,y4,y5,y6,y7,y8,y9,y10,y11⟩,⟨x0,x1,x2,x3,x4,x5,x6,x7,x8⟩,⟨r0,r1,r2,r3,r4,r5,r6,r7,r8⟩,rf,l1,l2,l3⟩:=hZ.out wo (Hs _ _)
 replace hso:=aa hso
 have hwz:=hw.size
 clear hcp hcc hcpo hcco hco hfo hbp hbc hbo hsc
 go_enter func11,ntmps11
 go_upto_region 2 with (go_at_call 21;refine (hO.out _).mono ?_;rintro r w5 ⟨bw,rfl,hbw,hge,hlt,hb5⟩;obtain ⟨w6,hw6,hs6,hb6,hk6,-⟩:=af w5 #[.string ks,.bool kb,dF kf,dE kg bw] 70)
 have hb56:Below wo.heap.size wo w6:=hb5.trans (hb6.mono hb5.size)
 have hB6:Below w.heap.size w w6:=hw.trans (hb56.mono hwz)
 have hbw6:=(hb6.cell (p:=⟨bw,0,none⟩) hlt).trans hbw
 have l5:w5.heap.size<w6.heap.size:=by omega
 have lbw:bw<w6.heap.size:=by omega
 have hK:=aa (fun (W:World) (hW:Below w6.heap.size w6 W)=>And.intro (hZ.out W (hb56.trans (hW.mono hb56.size))) (And.intro (ig fun i=>(hW.cell (p:=⟨w5.heap.size,i,none⟩) l5).trans (hk6 i)) (And.intro (Hr l5 hW.size) (And.intro (hB6.trans (hW.mono hB6.size)) (And.intro ((hW.cell (p:=⟨bw,0,none⟩) lbw).trans hbw6) (Hr lbw hW.size))))))
 clear y0 y1 y2 y3 y4 y5 y6 y7 y8 y9 y10 y11 x0 x1 x2 x3 x4 x5 x6 x7 x8 r0 r1 r2 r3 r4 r5 r6 r7 r8 rf l1 l2 l3 hbw hbw6
 obtain ⟨⟨⟨y0,y1,y2,y3,y4,y5,y6,y7,y8,y9,y10,y11⟩,⟨x0,x1,x2,x3,x4,x5,x6,x7,x8⟩,⟨r0,r1,r2,r3,r4,r5,r6,r7,r8⟩,rf,l1,l2,l3⟩,⟨k0,k1',k2,k3'⟩,l5,-⟩:=hK.out w6 (Hs _ _)
 replace hs6:=aa hs6
 replace hk6:=aa hk6
 clear hO hge hlt
 cases LM
 rotate_right
 focus
  rw [Hx] at hbad
  by_cases hs0:cs<0
  have d0:decide (cs<0)=true:=decide_eq_true hs0
  rotate_right
  focus
   have d0:decide (cs<0)=false:=decide_eq_false hs0
   by_cases hsn:(n:Int)≤cs
   have d1:decide ((n:Int)≤cs)=true:=decide_eq_true hsn
   rotate_right
   focus
    have d1:decide ((n:Int)≤cs)=false:=decide_eq_false hsn
    rw [decide_eq_true (show 0≤cs by omega),decide_eq_true (show cs<(n:Int) by omega)] at hbad
    simp only [Hx] at hbad
    subst hbad
    go_wp2_with (first|(go_at_call 22;refine (hM.out _ hB6).mono ?_;rintro e w7 ⟨rfl,hb7⟩;clear y0 y1 y2 y3 y4 y5 y6 y7 y8 y9 y10 y11 x0 x1 x2 x3 x4 x5 x6 x7 x8 r0 r1 r2 r3 r4 r5 r6 r7 r8 rf l1 l2 l3 l5 k0 k1' k2 k3';obtain ⟨⟨⟨y0,y1,y2,y3,y4,y5,y6,y7,y8,y9,y10,y11⟩,⟨x0,x1,x2,x3,x4,x5,x6,x7,x8⟩,⟨r0,r1,r2,r3,r4,r5,r6,r7,r8⟩,rf,l1,l2,l3⟩,⟨k0,k1',k2,k3'⟩,l5,hB,hbv,lbv⟩:=hK.out w7 hb7)|(go_at_call 23;refine (hY.out _ _ hB).mono ?_;rintro e w8 ⟨rfl,hb8⟩;have hb78:=hb7.trans (hb8.mono hb7.size);clear hB hbv lbv;clear y0 y1 y2 y3 y4 y5 y6 y7 y8 y9 y10 y11 x0 x1 x2 x3 x4 x5 x6 x7 x8 r0 r1 r2 r3 r4 r5 r6 r7 r8 rf l1 l2 l3 l5 k0 k1' k2 k3';obtain ⟨⟨⟨y0,y1,y2,y3,y4,y5,y6,y7,y8,y9,y10,y11⟩,⟨x0,x1,x2,x3,x4,x5,x6,x7,x8⟩,⟨r0,r1,r2,r3,r4,r5,r6,r7,r8⟩,rf,l1,l2,l3⟩,⟨k0,k1',k2,k3'⟩,l5,hB,hbv,lbv⟩:=hK.out w8 hb78))
    refine bodyPost_ret (v:=.tuple #[.slice none 0 0,ui,.int .i64 2]) (by simp [results,results11,go_sem,ui,l1,l2,l3,rf,r0,r1,r2,r3,r4,r5,r6,r7,r8]) rfl ⟨rfl,?_⟩
    have hz:=hB.size
    repeat (first|(with_reducible exact hB)|(with_reducible refine Below.setCell ?_ (by simp<;>omega) _)|(with_reducible refine Below.alloc ?_ (by simp<;>omega) _))
 all_goals
  clear hbad hY
  go_wp2_with (go_at_call 22;refine (hM.out _ hB6).mono ?_;rintro e w7 ⟨rfl,hb7⟩;clear y0 y1 y2 y3 y4 y5 y6 y7 y8 y9 y10 y11 x0 x1 x2 x3 x4 x5 x6 x7 x8 r0 r1 r2 r3 r4 r5 r6 r7 r8 rf l1 l2 l3 l5 k0 k1' k2 k3';obtain ⟨⟨⟨y0,y1,y2,y3,y4,y5,y6,y7,y8,y9,y10,y11⟩,⟨x0,x1,x2,x3,x4,x5,x6,x7,x8⟩,⟨r0,r1,r2,r3,r4,r5,r6,r7,r8⟩,rf,l1,l2,l3⟩,⟨k0,k1',k2,k3'⟩,l5,hB,hbv,lbv⟩:=hK.out w7 hb7)
  refine bodyPost_ret (v:=.tuple #[.slice none 0 0,ui,.int .i64 2]) (by simp [results,results11,go_sem,ui,l1,l2,l3,rf,r0,r1,r2,r3,r4,r5,r6,r7,r8]) rfl ⟨rfl,?_⟩
  have hz:=hB.size
  repeat (first|(with_reducible exact hB)|(with_reducible refine Below.setCell ?_ (by simp<;>omega) _)|(with_reducible refine Below.alloc ?_ (by simp<;>omega) _))
theorem Bv (A1 A2 A3 A4 A5 A6 A7 A8 A9 A10 A11 A12:Option Addr) (p:Lp) (c1 c2 c3 c4 c5 c6 c7 c8 c9 c10 c11 c12:Nat) (c:bn) (AL B1 B2:Option Addr) (cL d1 d2 B:Nat) (l:List (List aA)) (w:World) (hBw:B≤w.heap.size) (h:cz w w.heap.size A1 A2 A3 A4 A5 A6 A7 A8 A9 A10 A11 A12 p) (hl:dB w w.heap.size B AL l) (hl100:l.length≤100) (hr:∀ x∈l,x.length≤1000) (hp:Sl 4 gT w B B1 c.e.pats) (hq:Sl 2 f8 w B B2 c.e.run.args) (hk:u8 c.kind) (k1:1≤c.kind) (k3:c.kind≤3) (hc0:lI p l c=true) (hpl:sA (ed l c) c=false):
  Calls prog 11 #[.agg (aO A1 A2 A3 A4 A5 A6 A7 A8 A9 A10 A11 A12 p c1 c2 c3 c4 c5 c6 c7 c8 c9 c10 c11 c12),.slice AL l.length cL,eV B1 d1 B2 d2 c] w fun e w'=>e=.returned (.tuple #[.slice none 0 0,ui,.int .i64 7])∧Below w.heap.size w w':=by
 unfold aO
 have hO:=aa (fun (W:World)=>xN c B1 B2 d1 d2 W hk k1 k3)
 have hM:=aa (fun (W:World) (hW:Below w.heap.size w W)=>dA A1 A2 A3 A4 A5 A6 A7 A8 A9 A10 A11 A12 p c1 c2 c3 c4 c5 c6 c7 c8 c9 c10 c11 c12 W ((h.below hW).more hW.size))
 have hY:=aa (fun (bw:Nat) (W:World) (hW:Below w.heap.size w W)=>oH A1 A2 A3 A4 A5 A6 A7 A8 A9 A10 A11 A12 p c1 c2 c3 c4 c5 c6 c7 c8 c9 c10 c11 c12 c B1 B2 d1 d2 bw W ((h.below hW).more hW.size) (((hp.more ay hBw).below ay hW).more ay hW.size) (((hq.more aq hBw).below aq hW).more aq hW.size) k1 k3)
 obtain ⟨ks,kb,kf,kg,hkc⟩:∃ (ks:ByteArray) (kb:Bool) (kf kg:Nat),∀ bw,kC c.kind bw=#[.string ks,.bool kb,dF kf,dE kg bw]:=by
  rcases (show c.kind=1∨c.kind=2∨c.kind=3 by omega) with e|e|e
  ·rw [e];exact ⟨_,_,_,_,fun bw=>rfl⟩
  ·rw [e];exact ⟨_,_,_,_,fun bw=>rfl⟩
  ·rw [e];exact ⟨_,_,_,_,fun bw=>rfl⟩
 simp only [hkc] at hO hY
 clear hkc
 have hc0':=hc0
 unfold lI at hc0'
 simp only [Hy,decide_eq_true_eq] at hc0'
 obtain ⟨-,hLM,⟨hs0,hsl⟩,hEM⟩:=hc0'
 have hcs:c.sw.toNat<l.length:=by omega
 obtain ⟨eb,eo,EA,ec,hA,heb,hec,hEl⟩:=hl _ hcs
 have hrl:=hr _ (HE hcs)
 rw [dx hcs] at hpl
 rw [hLM] at hM
 simp only [hEM] at hY
 clear hLM hEM
 unfold sA at hpl
 clear hp hq h hl hr k1 k3 hk hc0 hEl
 unfold eV at hO hY ⊢
 obtain ⟨ck,cs,cp,ce⟩:=c
 simp only at hO hY hpl hs0 hsl hcs hec hrl ⊢
 obtain ⟨s,rfl⟩:=HH hs0
 simp only [HQ] at hpl hs0 hsl hcs hec hrl
 have hsl':(s:Int)<(l.length:Int):=hsl
 have g0:decide ((s:Int)<0)=false:=decide_eq_false (by omega)
 have g1:decide ((l.length:Int)≤(s:Int))=false:=decide_eq_false (by omega)
 have g1':decide (l.length≤s)=false:=decide_eq_false (by omega)
 subst hA
 generalize ce.tab=t0 at*
 generalize ce.pats.length=t1 at*
 generalize ce.len=t2 at*
 generalize ce.prio=t3 at*
 generalize ce.run.act=t4 at*
 generalize ce.run.args.length=t5 at*
 simp only [Ib,Bool.or_eq_false_iff,decide_eq_false_iff_not] at hpl
 generalize l[s].length=rn at*
 have hsl'':s<l.length:=hcs
 clear hcs hs0
 obtain ⟨wp,hwp,hsp,hbp,hcp,-⟩:=af w (aO A1 A2 A3 A4 A5 A6 A7 A8 A9 A10 A11 A12 p c1 c2 c3 c4 c5 c6 c7 c8 c9 c10 c11 c12) 33
 obtain ⟨wc,hwc,hsc,hbc,hcc,-⟩:=af wp #[.int .u8 ck,.int .i64 (s:Int),.int .i64 cp,.int .i64 t0,.slice B1 t1 d1,.int .i64 t2,.int .i64 t3,.int .i64 t4,.slice B2 t5 d2] 51
 obtain ⟨wo,hwo,hso,hbo,hco,hfo⟩:=af wc #[.int .u8 0,.int .i64 0,.int .i64 0,.int .i64 0,.slice none 0 0,.int .i64 0,.int .i64 0,.int .i64 0,.slice none 0 0] 51
 have hcpo:=fun i=>(bj hbo w.heap.size i (by omega)).trans ((bj hbc w.heap.size i (by omega)).trans (hcp i))
 have hcco:=fun i=>(bj hbo wp.heap.size i (by omega)).trans (hcc i)
 have hsc2:wc.heap.size=w.heap.size+1+1:=by omega
 have l1:w.heap.size<wo.heap.size:=by omega
 have l2:w.heap.size+1<wo.heap.size:=by omega
 have l3:w.heap.size+1+1<wo.heap.size:=by omega
 have hw:Below w.heap.size w wo:=hbp.trans ((hbc.trans (hbo.mono (by omega))).mono (by omega))
 rw [hsp] at hcco
 rw [hsc2] at hco hfo
 have hZ:=aa (fun (W:World) (hW:Below wo.heap.size wo W)=>And.intro (aF fun i=>((hW.cell (p:=⟨w.heap.size,i,none⟩) l1).trans (hcpo i))) (And.intro (bW fun i=>((hW.cell (p:=⟨w.heap.size+1,i,none⟩) l2).trans (hcco i))) (And.intro (bW fun i=>(((ae hW).1 _ i l3)).trans (hco i)) (And.intro (fun i=>(((ae hW).2 _ i l3)).trans (hfo i)) (And.intro (Hr l1 hW.size) (And.intro (Hr l2 hW.size) (Hr l3 hW.size)))))))
 obtain ⟨⟨y0,y1,y2,y3,y4,y5,y6,y7,y8,y9,y10,y11⟩,⟨x0,x1,x2,x3,x4,x5,x6,x7,x8⟩,⟨r0,r1,r2,r3,r4,r5,r6,r7,r8⟩,rf,l1,l2,l3⟩:=hZ.out wo (Hs _ _)
 replace hso:=aa hso
 have hwz:=hw.size
 clear hcp hcc hcpo hcco hco hfo hbp hbc hbo hsc
 go_enter func11,ntmps11
 go_upto_region 2 with (go_at_call 21;refine (hO.out _).mono ?_;rintro r w5 ⟨bw,rfl,hbw,hge,hlt,hb5⟩;obtain ⟨w6,hw6,hs6,hb6,hk6,-⟩:=af w5 #[.string ks,.bool kb,dF kf,dE kg bw] 70)
 have hb56:Below wo.heap.size wo w6:=hb5.trans (hb6.mono hb5.size)
 have hB6:Below w.heap.size w w6:=hw.trans (hb56.mono hwz)
 have hbw6:=(hb6.cell (p:=⟨bw,0,none⟩) hlt).trans hbw
 have l5:w5.heap.size<w6.heap.size:=by omega
 have lbw:bw<w6.heap.size:=by omega
 have hK:=aa (fun (W:World) (hW:Below w6.heap.size w6 W)=>And.intro (hZ.out W (hb56.trans (hW.mono hb56.size))) (And.intro (ig fun i=>(hW.cell (p:=⟨w5.heap.size,i,none⟩) l5).trans (hk6 i)) (And.intro (Hr l5 hW.size) (And.intro (hB6.trans (hW.mono hB6.size)) (And.intro ((hW.cell (p:=⟨bw,0,none⟩) lbw).trans hbw6) (And.intro (Hr lbw hW.size) (And.intro (((hB6.trans (hW.mono hB6.size)).cell (p:=⟨eb,eo+s,none⟩) heb).trans hec) (Hr heb (hB6.trans (hW.mono hB6.size)).size))))))))
 clear y0 y1 y2 y3 y4 y5 y6 y7 y8 y9 y10 y11 x0 x1 x2 x3 x4 x5 x6 x7 x8 r0 r1 r2 r3 r4 r5 r6 r7 r8 rf l1 l2 l3 hbw hbw6
 obtain ⟨⟨⟨y0,y1,y2,y3,y4,y5,y6,y7,y8,y9,y10,y11⟩,⟨x0,x1,x2,x3,x4,x5,x6,x7,x8⟩,⟨r0,r1,r2,r3,r4,r5,r6,r7,r8⟩,rf,l1,l2,l3⟩,⟨k0,k1',k2,k3'⟩,l5,-,-,-,he,leb⟩:=hK.out w6 (Hs _ _)
 replace hs6:=aa hs6
 replace hk6:=aa hk6
 clear hO hge hlt
 by_cases hk1:ck=1
 focus
  have q1:(ck !=1)=false:=by simp [hk1]
  have q2:(ck==1)=true:=by simp [hk1]
  by_cases hp0:cp<0
  have g2:decide (cp<0)=true:=decide_eq_true hp0
  rotate_right
  have g2:decide (cp<0)=false:=decide_eq_false hp0
  have g3:decide ((rn:Int)<cp)=true:=decide_eq_true (by omega)
 rotate_right
 focus
  have q1:(ck !=1)=true:=by simp [hk1]
  have q2:(ck==1)=false:=by simp [hk1]
  by_cases hp0:cp<0
  have g2:decide (cp<0)=true:=decide_eq_true hp0
  rotate_right
  have g2:decide (cp<0)=false:=decide_eq_false hp0
  have g3:decide ((rn:Int)-1<cp)=true:=decide_eq_true (by omega)
 all_goals
  clear hpl hk1
  go_wp2_with (first|(go_at_call 22;refine (hM.out _ hB6).mono ?_;rintro e w7 ⟨rfl,hb7⟩;clear y0 y1 y2 y3 y4 y5 y6 y7 y8 y9 y10 y11 x0 x1 x2 x3 x4 x5 x6 x7 x8 r0 r1 r2 r3 r4 r5 r6 r7 r8 rf l1 l2 l3 l5 k0 k1' k2 k3' he leb;obtain ⟨⟨⟨y0,y1,y2,y3,y4,y5,y6,y7,y8,y9,y10,y11⟩,⟨x0,x1,x2,x3,x4,x5,x6,x7,x8⟩,⟨r0,r1,r2,r3,r4,r5,r6,r7,r8⟩,rf,l1,l2,l3⟩,⟨k0,k1',k2,k3'⟩,l5,hB,hbv,lbv,he,leb⟩:=hK.out w7 hb7)|(go_at_call 23;refine (hY.out _ _ hB).mono ?_;rintro e w8 ⟨rfl,hb8⟩;have hb78:=hb7.trans (hb8.mono hb7.size);clear hB hbv lbv;clear y0 y1 y2 y3 y4 y5 y6 y7 y8 y9 y10 y11 x0 x1 x2 x3 x4 x5 x6 x7 x8 r0 r1 r2 r3 r4 r5 r6 r7 r8 rf l1 l2 l3 l5 k0 k1' k2 k3' he leb;obtain ⟨⟨⟨y0,y1,y2,y3,y4,y5,y6,y7,y8,y9,y10,y11⟩,⟨x0,x1,x2,x3,x4,x5,x6,x7,x8⟩,⟨r0,r1,r2,r3,r4,r5,r6,r7,r8⟩,rf,l1,l2,l3⟩,⟨k0,k1',k2,k3'⟩,l5,hB,hbv,lbv,he,leb⟩:=hK.out w8 hb78))
  refine bodyPost_ret (v:=.tuple #[.slice none 0 0,ui,.int .i64 7]) (by simp [results,results11,go_sem,ui,l1,l2,l3,rf,r0,r1,r2,r3,r4,r5,r6,r7,r8]) rfl ⟨rfl,?_⟩
  have hz:=hB.size
  repeat (first|(with_reducible exact hB)|(with_reducible refine Below.setCell ?_ (by simp<;>omega) _)|(with_reducible refine Below.alloc ?_ (by simp<;>omega) _))
theorem Bw (A1 A2 A3 A4 A5 A6 A7 A8 A9 A10 A11 A12:Option Addr) (p:Lp) (c1 c2 c3 c4 c5 c6 c7 c8 c9 c10 c11 c12:Nat) (c:bn) (AL B1 B2:Option Addr) (cL d1 d2 B:Nat) (l:List (List aA)) (w:World) (hBw:B≤w.heap.size) (h:cz w w.heap.size A1 A2 A3 A4 A5 A6 A7 A8 A9 A10 A11 A12 p) (hl:dB w w.heap.size B AL l) (hl100:l.length≤100) (hr:∀ x∈l,x.length≤1000) (hp:Sl 4 gT w B B1 c.e.pats) (hq:Sl 2 f8 w B B2 c.e.run.args) (hk:u8 c.kind) (k1:1≤c.kind) (k3:c.kind≤3) (hc0:lI p l c=true) (hpl:sA (ed l c) c=true) (hov:uL (ed l c) c=true):
  Calls prog 11 #[.agg (aO A1 A2 A3 A4 A5 A6 A7 A8 A9 A10 A11 A12 p c1 c2 c3 c4 c5 c6 c7 c8 c9 c10 c11 c12),.slice AL l.length cL,eV B1 d1 B2 d2 c] w fun e w'=>e=.returned (.tuple #[.slice none 0 0,ui,.int .i64 5])∧Below w.heap.size w w':=by
 unfold aO
 have hO:=aa (fun (W:World)=>xN c B1 B2 d1 d2 W hk k1 k3)
 have hM:=aa (fun (W:World) (hW:Below w.heap.size w W)=>dA A1 A2 A3 A4 A5 A6 A7 A8 A9 A10 A11 A12 p c1 c2 c3 c4 c5 c6 c7 c8 c9 c10 c11 c12 W ((h.below hW).more hW.size))
 have hY:=aa (fun (bw:Nat) (W:World) (hW:Below w.heap.size w W)=>oH A1 A2 A3 A4 A5 A6 A7 A8 A9 A10 A11 A12 p c1 c2 c3 c4 c5 c6 c7 c8 c9 c10 c11 c12 c B1 B2 d1 d2 bw W ((h.below hW).more hW.size) (((hp.more ay hBw).below ay hW).more ay hW.size) (((hq.more aq hBw).below aq hW).more aq hW.size) k1 k3)
 obtain ⟨ks,kb,kf,kg,hkc⟩:∃ (ks:ByteArray) (kb:Bool) (kf kg:Nat),∀ bw,kC c.kind bw=#[.string ks,.bool kb,dF kf,dE kg bw]:=by
  rcases (show c.kind=1∨c.kind=2∨c.kind=3 by omega) with e|e|e
  all_goals
   rw [e];exact ⟨_,_,_,_,fun bw=>rfl⟩
 simp only [hkc] at hO hY
 clear hkc
 have hc0':=hc0
 unfold lI at hc0'
 simp only [Hy,decide_eq_true_eq] at hc0'
 obtain ⟨-,hLM,⟨hs0,hsl⟩,hEM⟩:=hc0'
 have hcs:c.sw.toNat<l.length:=by omega
 obtain ⟨eb,eo,EA,ec,hA,heb,hec,hEl⟩:=hl _ hcs
 have hrl:=hr _ (HE hcs)
 rw [dx hcs] at hpl hov
 rw [hLM] at hM
 simp only [hEM] at hY
 clear hLM hEM
 unfold sA at hpl
 unfold uL at hov
 clear hp hq h hl hr k1 k3 hk hc0 hEl
 unfold eV at hO hY ⊢
 obtain ⟨ck,cs,cp,ce⟩:=c
 simp only at hO hY hpl hov hs0 hsl hcs hec hrl ⊢
 obtain ⟨s,rfl⟩:=HH hs0
 simp only [HQ] at hpl hov hs0 hsl hcs hec hrl
 have hsl':(s:Int)<(l.length:Int):=hsl
 have g0:decide ((s:Int)<0)=false:=decide_eq_false (by omega)
 have g1:decide ((l.length:Int)≤(s:Int))=false:=decide_eq_false (by omega)
 have g1':decide (l.length≤s)=false:=decide_eq_false (by omega)
 subst hA
 generalize ce.tab=t0 at*
 generalize ce.pats.length=t1 at*
 generalize ce.len=t2 at*
 generalize ce.prio=t3 at*
 generalize ce.run.act=t4 at*
 generalize ce.run.args.length=t5 at*
 simp only [Hy,HS,decide_eq_true_eq] at hpl hov
 generalize l[s].length=rn at*
 have hsl'':s<l.length:=hcs
 clear hcs hs0
 have q1:(ck !=1)=false:=by simp [hov.1]
 have q2:(ck==1)=true:=by simp [hov.1]
 have g2:decide (cp<0)=false:=decide_eq_false (by omega)
 have g3:decide ((rn:Int)<cp)=false:=decide_eq_false (by omega)
 have g4:decide ((64:Int)≤(rn:Int))=true:=decide_eq_true (by omega)
 have g4':decide (64≤rn)=true:=decide_eq_true (by omega)
 clear hpl hov
 obtain ⟨wp,hwp,hsp,hbp,hcp,-⟩:=af w (aO A1 A2 A3 A4 A5 A6 A7 A8 A9 A10 A11 A12 p c1 c2 c3 c4 c5 c6 c7 c8 c9 c10 c11 c12) 33
 obtain ⟨wc,hwc,hsc,hbc,hcc,-⟩:=af wp #[.int .u8 ck,.int .i64 (s:Int),.int .i64 cp,.int .i64 t0,.slice B1 t1 d1,.int .i64 t2,.int .i64 t3,.int .i64 t4,.slice B2 t5 d2] 51
 obtain ⟨wo,hwo,hso,hbo,hco,hfo⟩:=af wc #[.int .u8 0,.int .i64 0,.int .i64 0,.int .i64 0,.slice none 0 0,.int .i64 0,.int .i64 0,.int .i64 0,.slice none 0 0] 51
 have hcpo:=fun i=>(bj hbo w.heap.size i (by omega)).trans ((bj hbc w.heap.size i (by omega)).trans (hcp i))
 have hcco:=fun i=>(bj hbo wp.heap.size i (by omega)).trans (hcc i)
 have hsc2:wc.heap.size=w.heap.size+1+1:=by omega
 have l1:w.heap.size<wo.heap.size:=by omega
 have l2:w.heap.size+1<wo.heap.size:=by omega
 have l3:w.heap.size+1+1<wo.heap.size:=by omega
 have hw:Below w.heap.size w wo:=hbp.trans ((hbc.trans (hbo.mono (by omega))).mono (by omega))
 rw [hsp] at hcco
 rw [hsc2] at hco hfo
 have hZ:=aa (fun (W:World) (hW:Below wo.heap.size wo W)=>And.intro (aF fun i=>((hW.cell (p:=⟨w.heap.size,i,none⟩) l1).trans (hcpo i))) (And.intro (bW fun i=>((hW.cell (p:=⟨w.heap.size+1,i,none⟩) l2).trans (hcco i))) (And.intro (bW fun i=>(((ae hW).1 _ i l3)).trans (hco i)) (And.intro (fun i=>(((ae hW).2 _ i l3)).trans (hfo i)) (And.intro (Hr l1 hW.size) (And.intro (Hr l2 hW.size) (Hr l3 hW.size)))))))
 obtain ⟨⟨y0,y1,y2,y3,y4,y5,y6,y7,y8,y9,y10,y11⟩,⟨x0,x1,x2,x3,x4,x5,x6,x7,x8⟩,⟨r0,r1,r2,r3,r4,r5,r6,r7,r8⟩,rf,l1,l2,l3⟩:=hZ.out wo (Hs _ _)
 replace hso:=aa hso
 have hwz:=hw.size
 clear hcp hcc hcpo hcco hco hfo hbp hbc hbo hsc
 go_enter func11,ntmps11
 go_upto_region 2 with (go_at_call 21;refine (hO.out _).mono ?_;rintro r w5 ⟨bw,rfl,hbw,hge,hlt,hb5⟩;obtain ⟨w6,hw6,hs6,hb6,hk6,-⟩:=af w5 #[.string ks,.bool kb,dF kf,dE kg bw] 70)
 have hb56:Below wo.heap.size wo w6:=hb5.trans (hb6.mono hb5.size)
 have hB6:Below w.heap.size w w6:=hw.trans (hb56.mono hwz)
 have hbw6:=(hb6.cell (p:=⟨bw,0,none⟩) hlt).trans hbw
 have l5:w5.heap.size<w6.heap.size:=by omega
 have lbw:bw<w6.heap.size:=by omega
 have hK:=aa (fun (W:World) (hW:Below w6.heap.size w6 W)=>And.intro (hZ.out W (hb56.trans (hW.mono hb56.size))) (And.intro (ig fun i=>(hW.cell (p:=⟨w5.heap.size,i,none⟩) l5).trans (hk6 i)) (And.intro (Hr l5 hW.size) (And.intro (hB6.trans (hW.mono hB6.size)) (And.intro ((hW.cell (p:=⟨bw,0,none⟩) lbw).trans hbw6) (And.intro (Hr lbw hW.size) (And.intro (((hB6.trans (hW.mono hB6.size)).cell (p:=⟨eb,eo+s,none⟩) heb).trans hec) (Hr heb (hB6.trans (hW.mono hB6.size)).size))))))))
 clear y0 y1 y2 y3 y4 y5 y6 y7 y8 y9 y10 y11 x0 x1 x2 x3 x4 x5 x6 x7 x8 r0 r1 r2 r3 r4 r5 r6 r7 r8 rf l1 l2 l3 hbw hbw6
 obtain ⟨⟨⟨y0,y1,y2,y3,y4,y5,y6,y7,y8,y9,y10,y11⟩,⟨x0,x1,x2,x3,x4,x5,x6,x7,x8⟩,⟨r0,r1,r2,r3,r4,r5,r6,r7,r8⟩,rf,l1,l2,l3⟩,⟨k0,k1',k2,k3'⟩,l5,-,-,-,he,leb⟩:=hK.out w6 (Hs _ _)
 replace hs6:=aa hs6
 replace hk6:=aa hk6
 clear hO hge hlt
 go_wp2_with (first|(go_at_call 22;refine (hM.out _ hB6).mono ?_;rintro e w7 ⟨rfl,hb7⟩;clear y0 y1 y2 y3 y4 y5 y6 y7 y8 y9 y10 y11 x0 x1 x2 x3 x4 x5 x6 x7 x8 r0 r1 r2 r3 r4 r5 r6 r7 r8 rf l1 l2 l3 l5 k0 k1' k2 k3' he leb;obtain ⟨⟨⟨y0,y1,y2,y3,y4,y5,y6,y7,y8,y9,y10,y11⟩,⟨x0,x1,x2,x3,x4,x5,x6,x7,x8⟩,⟨r0,r1,r2,r3,r4,r5,r6,r7,r8⟩,rf,l1,l2,l3⟩,⟨k0,k1',k2,k3'⟩,l5,hB,hbv,lbv,he,leb⟩:=hK.out w7 hb7)|(go_at_call 23;refine (hY.out _ _ hB).mono ?_;rintro e w8 ⟨rfl,hb8⟩;have hb78:=hb7.trans (hb8.mono hb7.size);clear hB hbv lbv;clear y0 y1 y2 y3 y4 y5 y6 y7 y8 y9 y10 y11 x0 x1 x2 x3 x4 x5 x6 x7 x8 r0 r1 r2 r3 r4 r5 r6 r7 r8 rf l1 l2 l3 l5 k0 k1' k2 k3' he leb;obtain ⟨⟨⟨y0,y1,y2,y3,y4,y5,y6,y7,y8,y9,y10,y11⟩,⟨x0,x1,x2,x3,x4,x5,x6,x7,x8⟩,⟨r0,r1,r2,r3,r4,r5,r6,r7,r8⟩,rf,l1,l2,l3⟩,⟨k0,k1',k2,k3'⟩,l5,hB,hbv,lbv,he,leb⟩:=hK.out w8 hb78))
 refine bodyPost_ret (v:=.tuple #[.slice none 0 0,ui,.int .i64 5]) (by simp [results,results11,go_sem,ui,l1,l2,l3,rf,r0,r1,r2,r3,r4,r5,r6,r7,r8]) rfl ⟨rfl,?_⟩
 have hz:=hB.size
 repeat (first|(with_reducible exact hB)|(with_reducible refine Below.setCell ?_ (by simp<;>omega) _)|(with_reducible refine Below.alloc ?_ (by simp<;>omega) _))
end Go.Proofs.YtijcdfdbkffiaaaGreatDoor

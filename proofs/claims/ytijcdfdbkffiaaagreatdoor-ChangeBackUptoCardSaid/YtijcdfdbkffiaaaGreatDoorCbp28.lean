import Derived.Test.YtijcdfdbkffiaaaGreatDoorCbp27
import Derived.Deep.DrawnRows
set_option linter.all false
set_option maxHeartbeats 4000000
set_option maxRecDepth 100000
open Go.Proofs.Tryz
namespace Go.Proofs.YtijcdfdbkffiaaaGreatDoor
open _root_.Nat renaming lt_of_lt_of_le→Hr, le_refl→Ht, le_trans→Hw, le_of_lt→HL, lt_trans→HW
open _root_.Go.RowKit.Below renaming refl→Hs
open _root_.Bool renaming and_eq_true→Hy, or_eq_true→HS, and_eq_false_iff→Ib
open _root_.List renaming getElem?_toArray→HB, getElem?_cons_zero→HC, getElem?_cons_succ→HD, getElem_mem→HE, setIfInBounds_toArray→HI, set_cons_succ→HJ, set_cons_zero→HK, mem_cons→HU, mem_append→HZ, length_map→H4
open _root_.Int renaming eq_ofNat_of_zero_le→HH, toNat_natCast→HQ
open Go.RowKit
section
attribute [local go_sem ↓] Go.wp_at_zero Go.wp_at_succ
theorem xW (A1 A2 A3 A4 A5 A6 A7 A8 A9 A10 A11 A12:Option Addr) (p:Lp) (c1 c2 c3 c4 c5 c6 c7 c8 c9 c10 c11 c12:Nat) (c:bn) (AL B1 B2:Option Addr) (cL d1 d2 B:Nat) (l:List (List aA)) (w:World) (hBw:B≤w.heap.size) (h:cz w w.heap.size A1 A2 A3 A4 A5 A6 A7 A8 A9 A10 A11 A12 p) (hl:dB w w.heap.size B AL l) (hl100:l.length≤100) (hr:∀ x∈l,x.length≤1000) (hp:Sl 4 gT w B B1 c.e.pats) (hq:Sl 2 f8 w B B2 c.e.run.args) (hk:u8 c.kind) (hkk:c.kind=1) (hc0:lI p l c=true) (hpl:sA (ed l c) c=true) (hov:uL (ed l c) c=false):
  Calls prog 11 #[.agg (aO A1 A2 A3 A4 A5 A6 A7 A8 A9 A10 A11 A12 p c1 c2 c3 c4 c5 c6 c7 c8 c9 c10 c11 c12),.slice AL l.length cL,eV B1 d1 B2 d2 c] w (Bb B (l.set c.sw.toNat (ch (ed l c) c)) (bM (ed l c) c) l.length w):=by
 unfold aO
 have k1:1≤c.kind:=by omega
 have k3:c.kind≤3:=by omega
 have hO:=aa (fun (W:World)=>xN c B1 B2 d1 d2 W hk k1 k3)
 have hM:=aa (fun (W:World) (hW:Below w.heap.size w W)=>dA A1 A2 A3 A4 A5 A6 A7 A8 A9 A10 A11 A12 p c1 c2 c3 c4 c5 c6 c7 c8 c9 c10 c11 c12 W ((h.below hW).more hW.size))
 have hY:=aa (fun (bw:Nat) (W:World) (hW:Below w.heap.size w W)=>oH A1 A2 A3 A4 A5 A6 A7 A8 A9 A10 A11 A12 p c1 c2 c3 c4 c5 c6 c7 c8 c9 c10 c11 c12 c B1 B2 d1 d2 bw W ((h.below hW).more hW.size) (((hp.more ay hBw).below ay hW).more ay hW.size) (((hq.more aq hBw).below aq hW).more aq hW.size) k1 k3)
 obtain ⟨ks,hkc⟩:∃ (ks:ByteArray),∀ bw,kC c.kind bw=#[.string ks,.bool true,dF 71,dE 73 bw]:=by
  rw [hkk];exact ⟨_,fun bw=>rfl⟩
 simp only [hkc] at hO hY
 clear hkc
 have hc0':=hc0
 unfold lI at hc0'
 simp only [Hy,decide_eq_true_eq] at hc0'
 obtain ⟨-,hLM,⟨hs0,hsl⟩,hEM⟩:=hc0'
 have hcs:c.sw.toNat<l.length:=by omega
 obtain ⟨eb,eo,EA,ec,hA,heb,hec,hEl⟩:=hl _ hcs
 have hrl:=hr _ (HE hcs)
 rw [dx hcs] at hpl hov ⊢
 rw [hLM] at hM
 simp only [hEM] at hY
 clear hLM hEM
 unfold sA at hpl
 unfold uL at hov
 simp only [Hy,HS,decide_eq_true_eq] at hpl
 rw [Ib,decide_eq_false_iff_not,decide_eq_false_iff_not] at hov
 have hp0:0≤c.pos:=hpl.1
 have hpn:c.pos.toNat≤l[c.sw.toNat].length:=by omega
 have hp64:l[c.sw.toNat].length<64:=by omega
 obtain ⟨bk,hbk⟩:∃ bk,bk=bM l[c.sw.toNat] c:=⟨_,rfl⟩
 rw [←hbk]
 have hbk':bk=⟨2,c.sw,c.pos,e0⟩:=by rw [hbk];unfold bM;rw [if_pos hkk]
 have hBk:=aa (fun (bw:Nat) (W:World) (hB:Below w.heap.size w W) (lb:bw<W.heap.size) (hb:W.cell? ⟨bw,0,none⟩=some yC)=>Fe c EA B1 B2 l[c.sw.toNat].length ec d1 d2 bw W lb hb)
 rw [←hbk'] at hBk
 have s1:Sl 4 gT w B none bk.e.pats:=by rw [hbk'];exact Sl.nil_
 have s2:Sl 2 f8 w B none bk.e.run.args:=by rw [hbk'];exact Sl.nil_
 have hMk:=aa (fun (W:World) (base g n:Nat) (ps:List (aA×Value×Value)) (hs:W.heap[g]? =some (.cells (ps.flatMap an).toArray 49 (0,0))) (hn:ps.length=n) (hi:c.pos.toNat≤n) (hz:n≤1000) (hg:base≤g) (h1:∀ u∈ps.flatMap an,u.oneCell'=true)=>E9 (x:=(c.e,Value.slice B1 c.e.pats.length d1,Value.slice B2 c.e.run.args.length d2)) c B1 B2 d1 d2 hp0 ⟨rfl,rfl,rfl⟩ hs hn hi hz hg h1)
 have hRow:=aa (fun (ps:List (aA×Value×Value)) (W:World) (hps:ps.map (·.1)=l[c.sw.toNat]) (hB:Below w.heap.size w W) (hI:∀ x∈ps,iG W B x)=>(show (((ps.take c.pos.toNat++(c.e,Value.slice B1 c.e.pats.length d1,Value.slice B2 c.e.run.args.length d2)::ps.drop c.pos.toNat)).map (·.1)=ch l[c.sw.toNat] c)∧(∀ x∈(ps.take c.pos.toNat++(c.e,Value.slice B1 c.e.pats.length d1,Value.slice B2 c.e.run.args.length d2)::ps.drop c.pos.toNat),iG W B x) from by
  refine ⟨?_,fun x hx=> ?_⟩
  ·unfold ch
   rw [←hps]
   simp [hkk,List.map_take,List.map_drop]
  ·rcases HZ.1 hx with h|h
   ·exact hI x (List.mem_of_mem_take h)
   ·rcases HU.1 h with rfl|h
    ·exact ⟨⟨B1,d1,rfl,hp.keep ay fun a ha=>hB.cell (Hr ha hBw)⟩,B2,d2,rfl,hq.keep aq fun a ha=>hB.cell (Hr ha hBw)⟩
    ·exact hI x (List.mem_of_mem_drop h)))
 have hOwn:=aa (fun (W:World) (hW:Below w.heap.size w W)=>vj AL cL B l W (Hw hBw hW.size) ((hl.below hW (Ht _) hBw).more hW.size) hl100 hr)
 obtain ⟨L,hL⟩:∃ L,L=ch l[c.sw.toNat] c:=⟨_,rfl⟩
 rw [←hL] at hRow ⊢
 clear hp hq h hl hr k1 k3 hk hc0 hEl hbk hbk' hL
 have hrow:l[c.sw.toNat]=ed l c:=(dx hcs).symm
 unfold eV at hO hY hBk hMk ⊢
 obtain ⟨ck,cs,cp,ce⟩:=c
 simp only at hO hY hBk hMk hRow hpl hov hs0 hsl hcs hec hkk hp0 hpn hrl hp64 ⊢
 obtain ⟨s,rfl⟩:=HH hs0
 simp only [HQ] at hBk hMk hRow hpl hov hs0 hsl hcs hec hkk hp0 hpn hrl hp64
 have hsl':(s:Int)<(l.length:Int):=hsl
 have g0:decide ((s:Int)<0)=false:=decide_eq_false (by omega)
 have g1:decide ((l.length:Int)≤(s:Int))=false:=decide_eq_false (by omega)
 have g1':decide (l.length≤s)=false:=decide_eq_false (by omega)
 subst hA
 subst hkk
 obtain ⟨q,rfl⟩:=HH hp0
 simp only [HQ] at hBk hMk hRow hpn
 generalize ce.tab=t0 at*
 generalize ce.pats.length=t1 at*
 generalize ce.len=t2 at*
 generalize ce.prio=t3 at*
 generalize ce.run.act=t4 at*
 generalize ce.run.args.length=t5 at*
 generalize hrn:l[s].length=rn at*
 have hsl'':s<l.length:=hcs
 have q1:((1:Int) !=1)=false:=by decide
 have q2:((1:Int)==1)=true:=by decide
 have e2:decide ((q:Int)<0)=false:=decide_eq_false (by omega)
 have e3:decide ((rn:Int)<(q:Int))=false:=decide_eq_false (by omega)
 have e4:decide ((64:Int)≤(rn:Int))=false:=decide_eq_false (by omega)
 have e4':decide (64≤rn)=false:=decide_eq_false (by omega)
 replace hrow:=aa hrow
 replace hrn:=aa hrn
 clear hpl hov hs0 hp0
 obtain ⟨wp,hwp,hsp,hbp,hcp,-⟩:=af w (aO A1 A2 A3 A4 A5 A6 A7 A8 A9 A10 A11 A12 p c1 c2 c3 c4 c5 c6 c7 c8 c9 c10 c11 c12) 33
 obtain ⟨wc,hwc,hsc,hbc,hcc,-⟩:=af wp #[.int .u8 1,.int .i64 (s:Int),.int .i64 (q:Int),.int .i64 t0,.slice B1 t1 d1,.int .i64 t2,.int .i64 t3,.int .i64 t4,.slice B2 t5 d2] 51
 obtain ⟨wo,hwo,hso,hbo,hco,hfo⟩:=af wc #[.int .u8 0,.int .i64 0,.int .i64 0,.int .i64 0,.slice none 0 0,.int .i64 0,.int .i64 0,.int .i64 0,.slice none 0 0] 51
 have hcpo:=fun i=>(bj hbo w.heap.size i (by omega)).trans ((bj hbc w.heap.size i (by omega)).trans (hcp i))
 have hcco:=fun i=>(bj hbo wp.heap.size i (by omega)).trans (hcc i)
 have hsc2:wc.heap.size=w.heap.size+1+1:=by omega
 have l1:w.heap.size<wo.heap.size:=by omega
 have l2:w.heap.size+1<wo.heap.size:=by omega
 have l3:w.heap.size+1+1<wo.heap.size:=by omega
 have hw:Below w.heap.size w wo:=hbp.trans ((hbc.trans (hbo.mono (by omega))).mono (by omega))
 rw [hsp] at hcco
 rw [hsc2] at hco hfo
 have hZ:=aa (fun (W:World) (hW:Below wo.heap.size wo W)=>And.intro (aF fun i=>((hW.cell (p:=⟨w.heap.size,i,none⟩) l1).trans (hcpo i))) (And.intro (bW fun i=>((hW.cell (p:=⟨w.heap.size+1,i,none⟩) l2).trans (hcco i))) (And.intro (bW fun i=>(((ae hW).1 _ i l3)).trans (hco i)) (And.intro (fun i=>(((ae hW).2 _ i l3)).trans (hfo i)) (And.intro (Hr l1 hW.size) (And.intro (Hr l2 hW.size) (Hr l3 hW.size)))))))
 obtain ⟨⟨y0,y1,y2,y3,y4,y5,y6,y7,y8,y9,y10,y11⟩,⟨x0,x1,x2,x3,x4,x5,x6,x7,x8⟩,⟨r0,r1,r2,r3,r4,r5,r6,r7,r8⟩,rf,l1,l2,l3⟩:=hZ.out wo (Hs _ _)
 replace hso:=aa hso
 have hwz:=hw.size
 clear hcp hcc hcpo hcco hco hfo hbp hbc hbo hsc
 go_enter func11,ntmps11
 go_upto_region 2 with (go_at_call 21;refine (hO.out _).mono ?_;rintro r w5 ⟨bw,rfl,hbw,hge,hlt,hb5⟩;obtain ⟨w6,hw6,hs6,hb6,hk6,-⟩:=af w5 #[.string ks,.bool true,dF 71,dE 73 bw] 70)
 have hb56:Below wo.heap.size wo w6:=hb5.trans (hb6.mono hb5.size)
 have hB6:Below w.heap.size w w6:=hw.trans (hb56.mono hwz)
 have hbw6:=(hb6.cell (p:=⟨bw,0,none⟩) hlt).trans hbw
 have l5:w5.heap.size<w6.heap.size:=by omega
 have lbw:bw<w6.heap.size:=by omega
 have hK:=aa (fun (W:World) (hW:Below w6.heap.size w6 W)=>And.intro (hZ.out W (hb56.trans (hW.mono hb56.size))) (And.intro (ig fun i=>(hW.cell (p:=⟨w5.heap.size,i,none⟩) l5).trans (hk6 i)) (And.intro (Hr l5 hW.size) (And.intro (hB6.trans (hW.mono hB6.size)) (And.intro ((hW.cell (p:=⟨bw,0,none⟩) lbw).trans hbw6) (And.intro (Hr lbw hW.size) (And.intro (((hB6.trans (hW.mono hB6.size)).cell (p:=⟨eb,eo+s,none⟩) heb).trans hec) (Hr heb (hB6.trans (hW.mono hB6.size)).size))))))))
 clear y0 y1 y2 y3 y4 y5 y6 y7 y8 y9 y10 y11 x0 x1 x2 x3 x4 x5 x6 x7 x8 r0 r1 r2 r3 r4 r5 r6 r7 r8 rf l1 l2 l3 hbw hbw6
 obtain ⟨⟨⟨y0,y1,y2,y3,y4,y5,y6,y7,y8,y9,y10,y11⟩,⟨x0,x1,x2,x3,x4,x5,x6,x7,x8⟩,⟨r0,r1,r2,r3,r4,r5,r6,r7,r8⟩,rf,l1,l2,l3⟩,⟨k0,k1',k2,k3'⟩,l5,-,-,-,he,leb⟩:=hK.out w6 (Hs _ _)
 replace hs6:=aa hs6
 replace hk6:=aa hk6
 clear hO hge hlt
 go_upto_region 11 with (first|(go_at_call 22;refine (hM.out _ hB6).mono ?_;rintro e w7 ⟨rfl,hb7⟩;clear y0 y1 y2 y3 y4 y5 y6 y7 y8 y9 y10 y11 x0 x1 x2 x3 x4 x5 x6 x7 x8 r0 r1 r2 r3 r4 r5 r6 r7 r8 rf l1 l2 l3 l5 k0 k1' k2 k3' he leb;obtain ⟨⟨⟨y0,y1,y2,y3,y4,y5,y6,y7,y8,y9,y10,y11⟩,⟨x0,x1,x2,x3,x4,x5,x6,x7,x8⟩,⟨r0,r1,r2,r3,r4,r5,r6,r7,r8⟩,rf,l1,l2,l3⟩,⟨k0,k1',k2,k3'⟩,l5,hB,hbv,lbv,he,leb⟩:=hK.out w7 hb7)|(go_at_call 23;refine (hY.out _ _ hB).mono ?_;rintro e w8 ⟨rfl,hb8⟩;have hb78:=hb7.trans (hb8.mono hb7.size);clear hB hbv lbv;clear y0 y1 y2 y3 y4 y5 y6 y7 y8 y9 y10 y11 x0 x1 x2 x3 x4 x5 x6 x7 x8 r0 r1 r2 r3 r4 r5 r6 r7 r8 rf l1 l2 l3 l5 k0 k1' k2 k3' he leb;obtain ⟨⟨⟨y0,y1,y2,y3,y4,y5,y6,y7,y8,y9,y10,y11⟩,⟨x0,x1,x2,x3,x4,x5,x6,x7,x8⟩,⟨r0,r1,r2,r3,r4,r5,r6,r7,r8⟩,rf,l1,l2,l3⟩,⟨k0,k1',k2,k3'⟩,l5,hB,hbv,lbv,he,leb⟩:=hK.out w8 hb78))
 go_upto_region 12 with (go_at_call 18;refine (hOwn.out _ hB).mono ?_;rintro e w9 ⟨vs,rfl,hO9,hC9,hb9⟩)
 have hBz:=hB.size
 have hb89:=hb78.trans (hb9.mono hb78.size)
 have hog:=hO9.lt
 clear hB hbv lbv y0 y1 y2 y3 y4 y5 y6 y7 y8 y9 y10 y11 x0 x1 x2 x3 x4 x5 x6 x7 x8 r0 r1 r2 r3 r4 r5 r6 r7 r8 rf l1 l2 l3 l5 k0 k1' k2 k3' he leb
 obtain ⟨⟨⟨y0,y1,y2,y3,y4,y5,y6,y7,y8,y9,y10,y11⟩,⟨x0,x1,x2,x3,x4,x5,x6,x7,x8⟩,⟨r0,r1,r2,r3,r4,r5,r6,r7,r8⟩,rf,l1,l2,l3⟩,⟨k0,k1',k2,k3'⟩,l5,hB,hbv,lbv,he,leb⟩:=hK.out w9 hb89
 obtain ⟨g,m,hvs⟩:=hC9 s hcs
 obtain ⟨ps,p1,p2,hgb,hpI,hbg,hgo⟩:=hO9.own_row hcs hvs
 obtain rfl:rn=m:=by
  have:=congrArg List.length p1
  rw [H4,p2,hrn.out] at this
  exact this.symm
 have hg9:g<w9.heap.size:=aN hgb
 have hone:=jg hpI
 have hcs9:w9.cell? ⟨w8.heap.size,s,none⟩=some (.slice (some ⟨g,0,none⟩) rn rn):=(aH hO9.bx s).trans (by simpa using hvs)
 have hBk2:=aa (fun (W:World) (hW:Below w9.heap.size w9 W)=>(hBk.out bw W (hB.trans (hW.mono hB.size)) (Hr lbv hW.size) ((hW.cell (p:=⟨bw,0,none⟩) lbv).trans hbv)).mono fun r w' (h:_∧_)=>And.intro h.1 (And.intro (hW.trans (h.2.mono hW.size)) h.2))
 replace hgb:=aa hgb
 replace hpI:=aa hpI
 replace hone:=aa hone
 replace p1:=aa p1
 replace p2:=aa p2
 replace hvs:=aa hvs
 replace hO9:=aa hO9
 clear hBk hC9 hOwn hM hY
 have eg2:=xH
 have eg3:=xI
 go_cut [13] (fun v13 wx=>∃ gb,v13=.pointer (some ⟨gb,0,none⟩)∧Hid (iB w9 wx gb (.int .u8 bk.kind) (.int .i64 bk.sw) (.int .i64 bk.pos) (.int .i64 bk.e.tab) (.slice none bk.e.pats.length 0) (.int .i64 bk.e.len) (.int .i64 bk.e.prio) (.int .i64 bk.e.run.act) (.slice none bk.e.run.args.length 0)))
 case first=>
  clear r0 r1 r2 r3 r4 r5 r6 r7 r8 rf hcs9
  have kd:=cY (Hs w9.heap.size w9).drew
  have ka:=cY ((Hs w9.heap.size w9).drew.alloc (Ht _) (.cells z9 51))
  have ka2:=cY ((Hs w9.heap.size w9).alloc (Ht _) (.cells z9 51)).drew
  go_region_held3 (fun w'=>Below w9.heap.size w9 w'∧∀ b o,b<w9.heap.size→w'.cell? ⟨b,o,none⟩=w9.cell? ⟨b,o,none⟩) (first|(with_reducible exact kd)|(with_reducible exact ka)|(with_reducible exact ka2)|(with_reducible exact kb)|(with_reducible exact kz)|(with_reducible exact kc)|(with_reducible exact ks))
   ((go_at_fn 73;refine (hBk2.out _ (by first|(with_reducible exact kd.1)|(with_reducible exact ka.1)|(with_reducible exact ka2.1))).mono ?_;rintro e w10 ⟨rfl,hb10,hb10'⟩;have kb10:=fd hb10';have nC:=aa (iB.new hb10 (.int .u8 bk.kind) (.int .i64 bk.sw) (.int .i64 bk.pos) (.int .i64 bk.e.tab) (.slice none bk.e.pats.length 0) (.int .i64 bk.e.len) (.int .i64 bk.e.prio) (.int .i64 bk.e.run.act) (.slice none bk.e.run.args.length 0));(first|(have sC:=aa (iB.set2 rfl hb10 hb10' (.int .u8 bk.kind) (.int .i64 bk.sw) (.int .i64 bk.pos) (.int .i64 bk.e.tab) (.slice none bk.e.pats.length 0) (.int .i64 bk.e.len) (.int .i64 bk.e.prio) (.int .i64 bk.e.run.act) (.slice none bk.e.run.args.length 0)))|skip);have kb:=cY hb10;have kz:=cY (hb10.alloc hb10.size (.cells z9 51));have kc:=cY (hb10.alloc hb10.size (.cells #[.int .u8 bk.kind,.int .i64 bk.sw,.int .i64 bk.pos,.int .i64 bk.e.tab,.slice none bk.e.pats.length 0,.int .i64 bk.e.len,.int .i64 bk.e.prio,.int .i64 bk.e.run.act,.slice none bk.e.run.args.length 0] 51));have ks:=cY (cI hb10 (Ht _) (.int .u8 bk.kind) (.int .i64 bk.sw) (.int .i64 bk.pos) (.int .i64 bk.e.tab) (.slice none bk.e.pats.length 0) (.int .i64 bk.e.len) (.int .i64 bk.e.prio) (.int .i64 bk.e.run.act) (.slice none bk.e.run.args.length 0))))
  all_goals go_wp2
  all_goals go_meet
  all_goals first
   |(with_reducible exact ⟨_,rfl,nC⟩)
   |(with_reducible exact ⟨_,rfl,sC⟩)
 case rest=>
  obtain ⟨gb,rfl,hT⟩:=hcut
  obtain ⟨wd,rfl⟩:∃ wd:World,wd=wc:=⟨_,rfl⟩
  obtain ⟨hbc,hgz,hgl,c0,c1,c2,c3,c4,c5,c6,c7,c8⟩:=hT.out
  have hb8c:=hb89.trans (hbc.mono hb89.size)
  clear hB hbv lbv y0 y1 y2 y3 y4 y5 y6 y7 y8 y9 y10 y11 x0 x1 x2 x3 x4 x5 x6 x7 x8 r0 r1 r2 r3 r4 r5 r6 r7 r8 rf l1 l2 l3 l5 k0 k1' k2 k3' he leb
  obtain ⟨⟨⟨y0,y1,y2,y3,y4,y5,y6,y7,y8,y9,y10,y11⟩,⟨x0,x1,x2,x3,x4,x5,x6,x7,x8⟩,⟨r0,r1,r2,r3,r4,r5,r6,r7,r8⟩,rf,l1,l2,l3⟩,⟨k0,k1',k2,k3'⟩,l5,hB,hbv,lbv,he,leb⟩:=hK.out wd hb8c
  have hO10:=aa (hO9.out.below hbc)
  have hcs10:=(hbc.cell (p:=⟨w8.heap.size,s,none⟩) hog).trans hcs9
  have hfz10:∀ i,wd.frozen? ⟨w8.heap.size,i,none⟩=false:=fun i=>cm hO10.out.bx i
  have hogc:w8.heap.size<wd.heap.size:=Hr hog hbc.size
  have hgc:g<wd.heap.size:=Hr hg9 hbc.size
  have hMk2:=aa (fun (W:World) (hW:Below wd.heap.size wd W)=>(hMk.out W w8.heap.size g rn ps ((hW.block g hgc).trans ((hbc.block g hg9).trans hgb.out)) p2.out hpn hrl hbg hone.out).mono fun e w' ⟨v',q1,q2⟩=>(⟨v',q1,q2.behind hW (HL hogc)⟩:∃ v',e=Ending.returned v'∧rP wd w' w8.heap.size g (.slice (some ⟨g,0,none⟩) rn rn) v' (rn+1) (ps.take q++(ce,Value.slice B1 t1 d1,Value.slice B2 t5 d2)::ps.drop q)))
  have hfin:=aa (fun (w11:World) (v':Value) (m':Nat) (qs:List (aA×Value×Value)) (hm:rP wd w11 w8.heap.size g (.slice (some ⟨g,0,none⟩) rn rn) v' m' qs) (hq:∀ x∈qs,iG wd B x) (hl:qs.length=m')=>bC.make hO10.out hcs hvs.out hm hq hl)
  have h68:=hb78.size
  have hne:gb≠g:=by omega
  have hne2:gb≠w8.heap.size:=by omega
  have hwz8:w.heap.size+1+1<w8.heap.size:=by have:=hb56.size;omega
  clear hMk hBk2 hbc hcs9 hgb hone hvs he leb hO9
  go_upto_region 13 with fail
  have hn0:w.heap.size+1≠g:=by omega
  have hn5:w5.heap.size≠g:=by omega
  have hno:w8.heap.size≠g:=Ne.symm hgo
  have hl58:w5.heap.size<w8.heap.size:=by omega
  have hl18:w.heap.size+1<w8.heap.size:=by omega
  go_cut [] (fun wx=>∃ (w11:World) (VA:Option Addr) (VC:Nat),wx=w11.setCell ⟨w8.heap.size,s,none⟩ (.slice VA (rn+1) VC)∧Hid (rP wd w11 w8.heap.size g (.slice (some ⟨g,0,none⟩) rn rn) (.slice VA (rn+1) VC) (rn+1) (ps.take q++(ce,Value.slice B1 t1 d1,Value.slice B2 t5 d2)::ps.drop q)))
  case first=>
   clear y0 y1 y2 y3 y4 y5 y6 y7 y8 y9 y10 y11 r0 r1 r2 r3 r4 r5 r6 r7 r8 rf c0 c1 c2 c3 c4 c5 c6 c7 c8 k0 k1' k3' hK hZ
   have kd:∀ b o,b<w8.heap.size→wd.drew.cell? ⟨b,o,none⟩=wd.cell? ⟨b,o,none⟩:=fun _ _ _=>rfl
   refine wp_region_noPanic ?_
   refine wp_region_held_drew (S:=fun w'=>∀ b o,b<w8.heap.size→w'.cell? ⟨b,o,none⟩=wd.cell? ⟨b,o,none⟩) (by kernel_rfl) kd (fun hHeld=> ?_)
   refine wpAnyH_take (i:=0) (v:= ?_) (aT (by simp only [HB,HD,HC];rfl)) (by kernel_rfl) (by kernel_rfl) (by kernel_rfl) (fun _ _ _ h=>h) (Or.inl ⟨by rfl,?_⟩) ‹_› ?_
   rotate_left
   ·intro w hSw
    (try dsimp only at hSw)
    go_simp
    all_goals (with_reducible rfl)
   try simp only [Act.put,HI,HK,HJ]
   refine wpAnyH_take (i:=1) (v:= ?_) (aT (by simp only [HB,HD,HC];rfl)) (by kernel_rfl) (by kernel_rfl) (by kernel_rfl) (fun _ _ _ h=>h) (Or.inl ⟨by rfl,?_⟩) ‹_› ?_
   rotate_left
   ·intro w hSw
    (try dsimp only at hSw)
    go_simp
    all_goals (with_reducible rfl)
   try simp only [Act.put,HI,HK,HJ]
   refine wpAnyH_take (i:=2) (v:= ?_) (aT (by simp only [HB,HD,HC];rfl)) (by kernel_rfl) (by kernel_rfl) (by kernel_rfl) (fun _ _ _ h=>h) (Or.inl ⟨by rfl,?_⟩) ‹_› ?_
   rotate_left
   ·intro w hSw
    (try dsimp only at hSw)
    go_simp
    all_goals (with_reducible rfl)
   try simp only [Act.put,HI,HK,HJ]
   refine wpAnyH_take (i:=3) (v:= ?_) (aT (by simp only [HB,HD,HC];rfl)) (by kernel_rfl) (by kernel_rfl) (by kernel_rfl) (fun _ _ _ h=>h) (Or.inl ⟨by rfl,?_⟩) ‹_› ?_
   rotate_left
   ·intro w hSw
    (try dsimp only at hSw)
    go_simp
    all_goals (with_reducible rfl)
   try simp only [Act.put,HI,HK,HJ]
   refine wpAnyH_take (i:=4) (v:= ?_) (aT (by simp only [HB,HD,HC];rfl)) (by kernel_rfl) (by kernel_rfl) (by kernel_rfl) (fun _ _ _ h=>h) (Or.inl ⟨by rfl,?_⟩) ‹_› ?_
   rotate_left
   ·intro w hSw
    (try dsimp only at hSw)
    go_simp
    all_goals (with_reducible rfl)
   try simp only [Act.put,HI,HK,HJ]
   refine wpAnyH_take (i:=5) (v:= ?_) (aT (by simp only [HB,HD,HC];rfl)) (by kernel_rfl) (by kernel_rfl) (by kernel_rfl) (fun _ _ _ h=>h) (Or.inl ⟨by rfl,?_⟩) ‹_› ?_
   rotate_left
   ·intro w hSw
    (try dsimp only at hSw)
    go_simp
    all_goals (with_reducible rfl)
   try simp only [Act.put,HI,HK,HJ]
   refine wpAnyH_take (i:=6) (v:= ?_) (aT (by simp only [HB,HD,HC];rfl)) (by kernel_rfl) (by kernel_rfl) (by kernel_rfl) (fun _ _ _ h=>h) (Or.inl ⟨by rfl,?_⟩) ‹_› ?_
   rotate_left
   ·intro w hSw
    (try dsimp only at hSw)
    go_simp
    all_goals (with_reducible rfl)
   try simp only [Act.put,HI,HK,HJ]
   refine wpAnyH_take (i:=7) (v:= ?_) (aT (by simp only [HB,HD,HC];rfl)) (by kernel_rfl) (by kernel_rfl) (by kernel_rfl) (fun _ _ _ h=>h) (Or.inl ⟨by rfl,?_⟩) ‹_› ?_
   rotate_left
   ·intro w hSw
    (try dsimp only at hSw)
    go_simp
    all_goals (with_reducible rfl)
   try simp only [Act.put,HI,HK,HJ]
   refine wpAnyH_take (i:=8) (v:= ?_) (aT (by simp only [HB,HD,HC];rfl)) (by kernel_rfl) (by kernel_rfl) (by kernel_rfl) (fun _ _ _ h=>h) (Or.inl ⟨by rfl,?_⟩) ‹_› ?_
   rotate_left
   ·intro w hSw
    (try dsimp only at hSw)
    go_simp
    all_goals (with_reducible rfl)
   try simp only [Act.put,HI,HK,HJ]
   refine wpAnyH_take (i:=10) (v:= ?_) (aT (by simp only [HB,HD,HC];rfl)) (by kernel_rfl) (by kernel_rfl) (by kernel_rfl) (fun _ _ _ h=>h) (Or.inl ⟨by rfl,?_⟩) ‹_› ?_
   rotate_left
   ·intro w hSw
    (try dsimp only at hSw)
    go_simp
    all_goals (with_reducible rfl)
   try simp only [Act.put,HI,HK,HJ]
   refine wpAnyH_ready (rs:= [9]) (by kernel_rfl) (by simp) ?_
   refine AllReadyH.cons (aT (by simp only [HB,HD,HC];rfl)) (fun K hK=> ?_) AllReadyH.nil
   go_simp
   refine hK.out _ _ ?_ (fun hHeld2=> ?_)
   ·exact kd
   clear hK K hHeld
   have hHeld:=hHeld2
   clear hHeld2
   try simp only [Act.put,HI,HK,HJ]
   refine wpAnyH_ready (rs:= [11]) (by kernel_rfl) (by simp) ?_
   refine AllReadyH.cons (aT (by simp only [HB,HD,HC];rfl)) (fun K hK=> ?_) AllReadyH.nil
   go_simp
   go_at_fn 71
   refine (hMk2.out _ (by first|(with_reducible exact (Hs _ _).drew)|(with_reducible exact Hs _ _))).mono ?_
   rintro e w11 ⟨v',rfl,hm⟩
   obtain ⟨VA,VC,rfl⟩:=aR hm.own
   have x1b:=(hm.bel.cell (p:=⟨w.heap.size+1,1,none⟩) hl18).trans x1
   have hcs11:=(World.cell?_of_block (a:=⟨w8.heap.size,s,none⟩) (hm.far w8.heap.size hogc hno)).trans hcs10
   have hfz11:∀ i,w11.frozen? ⟨w8.heap.size,i,none⟩=false:=fun i=>cm ((hm.far w8.heap.size hogc hno).trans hO10.out.bx) i
   have hog11:=Hr hogc hm.bel.size
   have hl11:=HW hl18 hog11
   try go_wp2_with fail
   refine hK.out _ _ ?_ (fun hHeld2=> ?_)
   ·exact fun b o hb=>hm.bel.cell (p:=⟨b,o,none⟩) hb
   clear hK K hHeld
   have hHeld:=hHeld2
   clear hHeld2
   try simp only [Act.put,HI,HK,HJ]
   refine wpAnyH_take (i:=12) (v:= ?_) (aT (by simp only [HB,HD,HC];rfl)) (by kernel_rfl) (by kernel_rfl) (by kernel_rfl) (fun _ _ _ h=>h) (Or.inl ⟨by rfl,?_⟩) ‹_› ?_
   rotate_left
   ·intro w hSw
    (try dsimp only at hSw)
    go_simp
    all_goals (with_reducible rfl)
   try simp only [Act.put,HI,HK,HJ]
   refine wpAnyH_ready (rs:= [13]) (by kernel_rfl) (by simp) ?_
   refine AllReadyH.cons (aT (by simp only [HB,HD,HC];rfl)) (fun K hK=> ?_) AllReadyH.nil
   go_simp
   refine hK.out _ _ ?_ (fun hHeld2=> ?_)
   ·exact fun b o hb=>(World.cell?_of_block (a:=⟨b,o,none⟩) (ak (Nat.ne_of_lt hb))).trans (hm.bel.cell (p:=⟨b,o,none⟩) hb)
   clear hK K hHeld
   have hHeld:=hHeld2
   clear hHeld2
   try simp only [Act.put,HI,HK,HJ]
   refine wpAnyH_done (by kernel_rfl) ?_ _
   refine NoPanic.normal ?_
   go_wp2_with fail
   go_meet
   exact ⟨w11,VA,VC,rfl,aa hm⟩
  case rest=>
   obtain ⟨w11,VA,VC,hwx,hm⟩:=hcut
   obtain ⟨hr1,hr2⟩:=hRow.out ps wd p1.out hB (fun x hx=>(hpI.out x hx).keep fun a ha=>World.cell?_of_block (hT.out.1.block a.block (by omega)))
   have hOm:=hfin.out w11 _ _ _ hm.out hr2 (by simp;have:=p2.out;omega)
   rw [hr1,←hwx] at hOm
   have hff:∀ k,k<wd.heap.size→k≠g→k≠w8.heap.size→wc.heap[k]? =wd.heap[k]? :=fun k h1 h2 h3=>by
    rw [hwx,ak h3]
    exact hm.out.far k h1 h2
   have hb14:=hb8c.trans (hOm.2.mono h68)
   have hgl14:=Hr hgl hOm.2.size
   replace c0:=(World.cell?_of_block (a:=⟨gb,0,none⟩) (hff gb hgl hne hne2)).trans c0
   replace c1:=(World.cell?_of_block (a:=⟨gb,1,none⟩) (hff gb hgl hne hne2)).trans c1
   replace c2:=(World.cell?_of_block (a:=⟨gb,2,none⟩) (hff gb hgl hne hne2)).trans c2
   replace c3:=(World.cell?_of_block (a:=⟨gb,3,none⟩) (hff gb hgl hne hne2)).trans c3
   replace c4:=(World.cell?_of_block (a:=⟨gb,4,none⟩) (hff gb hgl hne hne2)).trans c4
   replace c5:=(World.cell?_of_block (a:=⟨gb,5,none⟩) (hff gb hgl hne hne2)).trans c5
   replace c6:=(World.cell?_of_block (a:=⟨gb,6,none⟩) (hff gb hgl hne hne2)).trans c6
   replace c7:=(World.cell?_of_block (a:=⟨gb,7,none⟩) (hff gb hgl hne hne2)).trans c7
   replace c8:=(World.cell?_of_block (a:=⟨gb,8,none⟩) (hff gb hgl hne hne2)).trans c8
   clear hB hbv lbv y0 y1 y2 y3 y4 y5 y6 y7 y8 y9 y10 y11 x0 x1 x2 x3 x4 x5 x6 x7 x8 r0 r1 r2 r3 r4 r5 r6 r7 r8 rf l1 l2 l3 l5 k0 k1' k2 k3'
   obtain ⟨⟨⟨y0,y1,y2,y3,y4,y5,y6,y7,y8,y9,y10,y11⟩,⟨x0,x1,x2,x3,x4,x5,x6,x7,x8⟩,⟨r0,r1,r2,r3,r4,r5,r6,r7,r8⟩,rf,l1,l2,l3⟩,⟨k0,k1',k2,k3'⟩,l5,hB,hbv,lbv,he,leb⟩:=hK.out wc hb14
   have hrg:w.heap.size+1+1≠gb:=by omega
   have hwx':=aa hwx
   have hOm':=aa hOm
   clear hwx hOm hff hcs10 hfz10 hO10 hMk2 hfin
   go_upto_region 14 with fail
   go_region
   all_goals go_wp2
   all_goals refine bodyPost_ret (v:=.tuple #[.slice (some ⟨w8.heap.size,0,none⟩) l.length l.length,.agg #[.int .u8 bk.kind,.int .i64 bk.sw,.int .i64 bk.pos,.int .i64 bk.e.tab,.slice none bk.e.pats.length 0,.int .i64 bk.e.len,.int .i64 bk.e.prio,.int .i64 bk.e.run.act,.slice none bk.e.run.args.length 0],.int .i64 0]) (by simp [results,results11,go_sem,l1,l2,l3,rf,r0,r1,r2,r3,r4,r5,r6,r7,r8]) rfl ?_
   all_goals refine ⟨w8.heap.size,w8.heap.size,_,none,0,none,0,rfl,hBz,bC.far hOm'.out.1 (fun a ha=>World.cell?_of_block ?_) (fun k hk=> ?_),s1.keep ay fun a ha=>Below.cell (w:=w) ?_ (Hr ha hBw),s2.keep aq fun a ha=>Below.cell (w:=w) ?_ (Hr ha hBw),?_⟩
   all_goals first
    |(with_reducible exact jF (Eg (by omega) _ _ _ _ _ _ _ _ _))
    |(with_reducible exact (cI hB (by omega) _ _ _ _ _ _ _ _ _).drew)
end
end Go.Proofs.YtijcdfdbkffiaaaGreatDoor

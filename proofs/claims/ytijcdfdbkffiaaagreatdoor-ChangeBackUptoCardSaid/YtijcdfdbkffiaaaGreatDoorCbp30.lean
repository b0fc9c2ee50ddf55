import Derived.Test.YtijcdfdbkffiaaaGreatDoorCbp28
import Derived.Test.YtijcdfdbkffiaaaGreatDoorCbp29
set_option linter.all false
set_option maxHeartbeats 4000000
set_option maxRecDepth 100000
open Go.Proofs.Tryz
namespace Go.Proofs.YtijcdfdbkffiaaaGreatDoor
open _root_.Nat renaming lt_of_lt_of_le→Hr, le_refl→Ht, le_trans→Hw, zero_le→Hz, le_of_lt→HL, lt_trans→HW
open _root_.Go.RowKit.Below renaming refl→Hs
open _root_.Bool renaming and_eq_true→Hy, or_eq_true→HS, and_eq_false_iff→Ib
open _root_.List renaming getElem?_eq_getElem→HA, getElem?_toArray→HB, getElem?_cons_zero→HC, getElem?_cons_succ→HD, getElem_mem→HE, setIfInBounds_toArray→HI, set_cons_succ→HJ, set_cons_zero→HK, length_append→HM, length_cons→HN, length_take→HO, mem_cons→HU, mem_append→HZ, getElem?_eq_some_iff→H1, length_map→H4, take_of_length_le→H6, flatMap_cons→Ia, take_append_drop→Ig, getElem?_append_right→Ik, take_append_of_le_length→Il, drop_of_length_le→Im, flatMap_append→Io, getElem?_append_left→Ip
open _root_.Int renaming eq_ofNat_of_zero_le→HH, toNat_natCast→HQ
open Go.RowKit
section
attribute [local go_sem ↓] Go.wp_at_zero Go.wp_at_succ
theorem xY (A1 A2 A3 A4 A5 A6 A7 A8 A9 A10 A11 A12:Option Addr) (p:Lp) (c1 c2 c3 c4 c5 c6 c7 c8 c9 c10 c11 c12:Nat) (c:bn) (AL B1 B2:Option Addr) (cL d1 d2 B:Nat) (l:List (List aA)) (w:World) (hBw:B≤w.heap.size) (h:cz w w.heap.size A1 A2 A3 A4 A5 A6 A7 A8 A9 A10 A11 A12 p) (hl:dB w w.heap.size B AL l) (hl100:l.length≤100) (hr:∀ x∈l,x.length≤1000) (hp:Sl 4 gT w B B1 c.e.pats) (hq:Sl 2 f8 w B B2 c.e.run.args) (hk:u8 c.kind) (hkk:c.kind=3) (hc0:lI p l c=true) (hpl:sA (ed l c) c=true) (hov:uL (ed l c) c=false):
  Calls prog 11 #[.agg (aO A1 A2 A3 A4 A5 A6 A7 A8 A9 A10 A11 A12 p c1 c2 c3 c4 c5 c6 c7 c8 c9 c10 c11 c12),.slice AL l.length cL,eV B1 d1 B2 d2 c] w (Bb B (l.set c.sw.toNat (ch (ed l c) c)) (bM (ed l c) c) l.length w):=by
 unfold aO
 have k1:1≤c.kind:=by omega
 have k3:c.kind≤3:=by omega
 have hO:=aa (fun (W:World)=>xN c B1 B2 d1 d2 W hk k1 k3)
 have hM:=aa (fun (W:World) (hW:Below w.heap.size w W)=>dA A1 A2 A3 A4 A5 A6 A7 A8 A9 A10 A11 A12 p c1 c2 c3 c4 c5 c6 c7 c8 c9 c10 c11 c12 W ((h.below hW).more hW.size))
 have hY:=aa (fun (bw:Nat) (W:World) (hW:Below w.heap.size w W)=>oH A1 A2 A3 A4 A5 A6 A7 A8 A9 A10 A11 A12 p c1 c2 c3 c4 c5 c6 c7 c8 c9 c10 c11 c12 c B1 B2 d1 d2 bw W ((h.below hW).more hW.size) (((hp.more ay hBw).below ay hW).more ay hW.size) (((hq.more aq hBw).below aq hW).more aq hW.size) k1 k3)
 obtain ⟨ks,hkc⟩:∃ (ks:ByteArray),∀ bw,kC c.kind bw=#[.string ks,.bool true,dF 77,dE 78 bw]:=by
  rw [hkk];exact ⟨_,fun bw=>rfl⟩
 simp only [hkc] at hO hY
 clear hkc
 have hc0':=hc0
 unfold lI at hc0'
 simp only [Hy,decide_eq_true_eq] at hc0'
 obtain ⟨-,hLM,⟨hs0,hsl⟩,hEM⟩:=hc0'
 have hcs:c.sw.toNat<l.length:=by omega
 obtain ⟨eb,eo,EA,ec,hA,heb,hec,hEl⟩:=hl _ hcs
 have hrl:=hr _ (HE hcs)
 rw [dx hcs] at hpl hov ⊢
 rw [hLM] at hM
 simp only [hEM] at hY
 clear hLM hEM
 unfold sA at hpl
 unfold uL at hov
 simp only [Hy,HS,decide_eq_true_eq] at hpl
 rw [Ib,decide_eq_false_iff_not,decide_eq_false_iff_not] at hov
 have hp0:0≤c.pos:=hpl.1
 have hpn:c.pos.toNat<l[c.sw.toNat].length:=by omega
 obtain ⟨hb',ho',U1,U2,u1,u2,hEA,heb',a0,a1,a2,a3,a4,a5,t1,t2⟩:=hEl.ent hpn
 obtain ⟨bk,hbk⟩:∃ bk,bk=bM l[c.sw.toNat] c:=⟨_,rfl⟩
 rw [←hbk]
 have hbk':bk=⟨3,c.sw,c.pos,l[c.sw.toNat][c.pos.toNat]⟩:=by rw [hbk];unfold bM;rw [if_neg (by omega),if_neg (by omega),gN hpn]
 have hBk:=aa (fun (bw:Nat) (W:World) (hB:Below w.heap.size w W) (lb:bw<W.heap.size) (hb:W.cell? ⟨bw,0,none⟩=some yC)=>Fu c l[c.sw.toNat][c.pos.toNat] l[c.sw.toNat].length B1 B2 U1 U2 ec d1 d2 bw hb' ho' u1 u2 W hp0 hpn (Hr heb' hB.size) ((hB.cell heb').trans a0) ((hB.cell heb').trans a1) ((hB.cell heb').trans a2) ((hB.cell heb').trans a3) ((hB.cell heb').trans a4) ((hB.cell heb').trans a5) lb hb)
 rw [←hbk',←hEA] at hBk
 have s1:Sl 4 gT w B U1 bk.e.pats:=by rw [hbk'];exact t1
 have s2:Sl 2 f8 w B U2 bk.e.run.args:=by rw [hbk'];exact t2
 clear a0 a1 a2 a3 a4 a5 hEA heb' t1 t2
 have hMk:=aa (fun (W:World) (base g n:Nat) (ps:List (aA×Value×Value)) (hs:W.heap[g]? =some (.cells (ps.flatMap an).toArray 49 (0,0))) (hn:ps.length=n) (hi:c.pos.toNat<n) (hz:n≤1000) (hg:base≤g) (h1:∀ u∈ps.flatMap an,u.oneCell'=true)=>Fa (x:=(c.e,Value.slice B1 c.e.pats.length d1,Value.slice B2 c.e.run.args.length d2)) c B1 B2 d1 d2 hp0 ⟨rfl,rfl,rfl⟩ hs hn hi hz hg)
 have hRow:=aa (fun (ps:List (aA×Value×Value)) (W:World) (hps:ps.map (·.1)=l[c.sw.toNat]) (hB:Below w.heap.size w W) (hI:∀ x∈ps,iG W B x)=>(show (((ps.take c.pos.toNat++(c.e,Value.slice B1 c.e.pats.length d1,Value.slice B2 c.e.run.args.length d2)::ps.drop (c.pos.toNat+1))).map (·.1)=ch l[c.sw.toNat] c)∧(∀ x∈(ps.take c.pos.toNat++(c.e,Value.slice B1 c.e.pats.length d1,Value.slice B2 c.e.run.args.length d2)::ps.drop (c.pos.toNat+1)),iG W B x) from by
  refine ⟨?_,fun x hx=> ?_⟩
  ·unfold ch
   rw [←hps]
   simp [hkk,List.map_take,List.map_drop]
  ·rcases HZ.1 hx with h|h
   ·exact hI x (List.mem_of_mem_take h)
   ·rcases HU.1 h with rfl|h
    ·exact ⟨⟨B1,d1,rfl,hp.keep ay fun a ha=>hB.cell (Hr ha hBw)⟩,B2,d2,rfl,hq.keep aq fun a ha=>hB.cell (Hr ha hBw)⟩
    ·exact hI x (List.mem_of_mem_drop h)))
 have hOwn:=aa (fun (W:World) (hW:Below w.heap.size w W)=>vj AL cL B l W (Hw hBw hW.size) ((hl.below hW (Ht _) hBw).more hW.size) hl100 hr)
 obtain ⟨L,hL⟩:∃ L,L=ch l[c.sw.toNat] c:=⟨_,rfl⟩
 rw [←hL] at hRow ⊢
 clear hp hq h hl hr k1 k3 hk hc0 hEl hbk hbk' hL
 have hrow:l[c.sw.toNat]=ed l c:=(dx hcs).symm
 unfold eV at hO hY hBk hMk ⊢
 obtain ⟨ck,cs,cp,ce⟩:=c
 simp only at hO hY hBk hMk hRow hpl hov hs0 hsl hcs hec hkk hp0 hpn hrl ⊢
 obtain ⟨s,rfl⟩:=HH hs0
 simp only [HQ] at hBk hMk hRow hpl hov hs0 hsl hcs hec hkk hp0 hpn hrl
 have hsl':(s:Int)<(l.length:Int):=hsl
 have g0:decide ((s:Int)<0)=false:=decide_eq_false (by omega)
 have g1:decide ((l.length:Int)≤(s:Int))=false:=decide_eq_false (by omega)
 have g1':decide (l.length≤s)=false:=decide_eq_false (by omega)
 subst hA
 subst hkk
 obtain ⟨q,rfl⟩:=HH hp0
 simp only [HQ] at hBk hMk hRow hpn
 generalize ce.tab=t0 at*
 generalize ce.pats.length=t1 at*
 generalize ce.len=t2 at*
 generalize ce.prio=t3 at*
 generalize ce.run.act=t4 at*
 generalize ce.run.args.length=t5 at*
 generalize hrn:l[s].length=rn at*
 have hsl'':s<l.length:=hcs
 have q1:((3:Int) !=1)=true:=by decide
 have q2:((3:Int)==1)=false:=by decide
 have e2:decide ((q:Int)<0)=false:=decide_eq_false (by omega)
 have e3:decide ((rn:Int)-1<(q:Int))=false:=decide_eq_false (by omega)
 replace hrow:=aa hrow
 replace hrn:=aa hrn
 clear hpl hov hs0 hp0
 obtain ⟨wp,hwp,hsp,hbp,hcp,-⟩:=af w (aO A1 A2 A3 A4 A5 A6 A7 A8 A9 A10 A11 A12 p c1 c2 c3 c4 c5 c6 c7 c8 c9 c10 c11 c12) 33
 obtain ⟨wc,hwc,hsc,hbc,hcc,-⟩:=af wp #[.int .u8 3,.int .i64 (s:Int),.int .i64 (q:Int),.int .i64 t0,.slice B1 t1 d1,.int .i64 t2,.int .i64 t3,.int .i64 t4,.slice B2 t5 d2] 51
 obtain ⟨wo,hwo,hso,hbo,hco,hfo⟩:=af wc #[.int .u8 0,.int .i64 0,.int .i64 0,.int .i64 0,.slice none 0 0,.int .i64 0,.int .i64 0,.int .i64 0,.slice none 0 0] 51
 have hcpo:=fun i=>(bj hbo w.heap.size i (by omega)).trans ((bj hbc w.heap.size i (by omega)).trans (hcp i))
 have hcco:=fun i=>(bj hbo wp.heap.size i (by omega)).trans (hcc i)
 have hsc2:wc.heap.size=w.heap.size+1+1:=by omega
 have l1:w.heap.size<wo.heap.size:=by omega
 have l2:w.heap.size+1<wo.heap.size:=by omega
 have l3:w.heap.size+1+1<wo.heap.size:=by omega
 have hw:Below w.heap.size w wo:=hbp.trans ((hbc.trans (hbo.mono (by omega))).mono (by omega))
 rw [hsp] at hcco
 rw [hsc2] at hco hfo
 have hZ:=aa (fun (W:World) (hW:Below wo.heap.size wo W)=>And.intro (aF fun i=>((hW.cell (p:=⟨w.heap.size,i,none⟩) l1).trans (hcpo i))) (And.intro (bW fun i=>((hW.cell (p:=⟨w.heap.size+1,i,none⟩) l2).trans (hcco i))) (And.intro (bW fun i=>(((ae hW).1 _ i l3)).trans (hco i)) (And.intro (fun i=>(((ae hW).2 _ i l3)).trans (hfo i)) (And.intro (Hr l1 hW.size) (And.intro (Hr l2 hW.size) (Hr l3 hW.size)))))))
 obtain ⟨⟨y0,y1,y2,y3,y4,y5,y6,y7,y8,y9,y10,y11⟩,⟨x0,x1,x2,x3,x4,x5,x6,x7,x8⟩,⟨r0,r1,r2,r3,r4,r5,r6,r7,r8⟩,rf,l1,l2,l3⟩:=hZ.out wo (Hs _ _)
 replace hso:=aa hso
 have hwz:=hw.size
 clear hcp hcc hcpo hcco hco hfo hbp hbc hbo hsc
 go_enter func11,ntmps11
 go_upto_region 2 with (go_at_call 21;refine (hO.out _).mono ?_;rintro r w5 ⟨bw,rfl,hbw,hge,hlt,hb5⟩;obtain ⟨w6,hw6,hs6,hb6,hk6,-⟩:=af w5 #[.string ks,.bool true,dF 77,dE 78 bw] 70)
 have hb56:Below wo.heap.size wo w6:=hb5.trans (hb6.mono hb5.size)
 have hB6:Below w.heap.size w w6:=hw.trans (hb56.mono hwz)
 have hbw6:=(hb6.cell (p:=⟨bw,0,none⟩) hlt).trans hbw
 have l5:w5.heap.size<w6.heap.size:=by omega
 have lbw:bw<w6.heap.size:=by omega
 have hK:=aa (fun (W:World) (hW:Below w6.heap.size w6 W)=>And.intro (hZ.out W (hb56.trans (hW.mono hb56.size))) (And.intro (ig fun i=>(hW.cell (p:=⟨w5.heap.size,i,none⟩) l5).trans (hk6 i)) (And.intro (Hr l5 hW.size) (And.intro (hB6.trans (hW.mono hB6.size)) (And.intro ((hW.cell (p:=⟨bw,0,none⟩) lbw).trans hbw6) (And.intro (Hr lbw hW.size) (And.intro (((hB6.trans (hW.mono hB6.size)).cell (p:=⟨eb,eo+s,none⟩) heb).trans hec) (Hr heb (hB6.trans (hW.mono hB6.size)).size))))))))
 clear y0 y1 y2 y3 y4 y5 y6 y7 y8 y9 y10 y11 x0 x1 x2 x3 x4 x5 x6 x7 x8 r0 r1 r2 r3 r4 r5 r6 r7 r8 rf l1 l2 l3 hbw hbw6
 obtain ⟨⟨⟨y0,y1,y2,y3,y4,y5,y6,y7,y8,y9,y10,y11⟩,⟨x0,x1,x2,x3,x4,x5,x6,x7,x8⟩,⟨r0,r1,r2,r3,r4,r5,r6,r7,r8⟩,rf,l1,l2,l3⟩,⟨k0,k1',k2,k3'⟩,l5,-,-,-,he,leb⟩:=hK.out w6 (Hs _ _)
 replace hs6:=aa hs6
 replace hk6:=aa hk6
 clear hO hge hlt
 go_upto_region 11 with (first|(go_at_call 22;refine (hM.out _ hB6).mono ?_;rintro e w7 ⟨rfl,hb7⟩;clear y0 y1 y2 y3 y4 y5 y6 y7 y8 y9 y10 y11 x0 x1 x2 x3 x4 x5 x6 x7 x8 r0 r1 r2 r3 r4 r5 r6 r7 r8 rf l1 l2 l3 l5 k0 k1' k2 k3' he leb;obtain ⟨⟨⟨y0,y1,y2,y3,y4,y5,y6,y7,y8,y9,y10,y11⟩,⟨x0,x1,x2,x3,x4,x5,x6,x7,x8⟩,⟨r0,r1,r2,r3,r4,r5,r6,r7,r8⟩,rf,l1,l2,l3⟩,⟨k0,k1',k2,k3'⟩,l5,hB,hbv,lbv,he,leb⟩:=hK.out w7 hb7)|(go_at_call 23;refine (hY.out _ _ hB).mono ?_;rintro e w8 ⟨rfl,hb8⟩;have hb78:=hb7.trans (hb8.mono hb7.size);clear hB hbv lbv;clear y0 y1 y2 y3 y4 y5 y6 y7 y8 y9 y10 y11 x0 x1 x2 x3 x4 x5 x6 x7 x8 r0 r1 r2 r3 r4 r5 r6 r7 r8 rf l1 l2 l3 l5 k0 k1' k2 k3' he leb;obtain ⟨⟨⟨y0,y1,y2,y3,y4,y5,y6,y7,y8,y9,y10,y11⟩,⟨x0,x1,x2,x3,x4,x5,x6,x7,x8⟩,⟨r0,r1,r2,r3,r4,r5,r6,r7,r8⟩,rf,l1,l2,l3⟩,⟨k0,k1',k2,k3'⟩,l5,hB,hbv,lbv,he,leb⟩:=hK.out w8 hb78))
 go_upto_region 12 with (go_at_call 18;refine (hOwn.out _ hB).mono ?_;rintro e w9 ⟨vs,rfl,hO9,hC9,hb9⟩)
 have hBz:=hB.size
 have hb89:=hb78.trans (hb9.mono hb78.size)
 have hog:=hO9.lt
 clear hB hbv lbv y0 y1 y2 y3 y4 y5 y6 y7 y8 y9 y10 y11 x0 x1 x2 x3 x4 x5 x6 x7 x8 r0 r1 r2 r3 r4 r5 r6 r7 r8 rf l1 l2 l3 l5 k0 k1' k2 k3' he leb
 obtain ⟨⟨⟨y0,y1,y2,y3,y4,y5,y6,y7,y8,y9,y10,y11⟩,⟨x0,x1,x2,x3,x4,x5,x6,x7,x8⟩,⟨r0,r1,r2,r3,r4,r5,r6,r7,r8⟩,rf,l1,l2,l3⟩,⟨k0,k1',k2,k3'⟩,l5,hB,hbv,lbv,he,leb⟩:=hK.out w9 hb89
 obtain ⟨g,m,hvs⟩:=hC9 s hcs
 obtain ⟨ps,p1,p2,hgb,hpI,hbg,hgo⟩:=hO9.own_row hcs hvs
 obtain rfl:rn=m:=by
  have:=congrArg List.length p1
  rw [H4,p2,hrn.out] at this
  exact this.symm
 have hg9:g<w9.heap.size:=aN hgb
 have hone:=jg hpI
 have hcs9:w9.cell? ⟨w8.heap.size,s,none⟩=some (.slice (some ⟨g,0,none⟩) rn rn):=(aH hO9.bx s).trans (by simpa using hvs)
 have hBk2:=aa (fun (W:World) (hW:Below w9.heap.size w9 W)=>(hBk.out bw W (hB.trans (hW.mono hB.size)) (Hr lbv hW.size) ((hW.cell (p:=⟨bw,0,none⟩) lbv).trans hbv)).mono fun r w' (h:_∧_)=>And.intro h.1 (And.intro (hW.trans (h.2.mono hW.size)) h.2))
 replace hgb:=aa hgb
 replace hpI:=aa hpI
 replace hone:=aa hone
 replace p1:=aa p1
 replace p2:=aa p2
 replace hvs:=aa hvs
 replace hO9:=aa hO9
 clear hBk hC9 hOwn hM hY
 have eg2:=xL
 have eg3:=xM
 go_cut [13] (fun v13 wx=>∃ gb,v13=.pointer (some ⟨gb,0,none⟩)∧Hid (iB w9 wx gb (.int .u8 bk.kind) (.int .i64 bk.sw) (.int .i64 bk.pos) (.int .i64 bk.e.tab) (.slice U1 bk.e.pats.length u1) (.int .i64 bk.e.len) (.int .i64 bk.e.prio) (.int .i64 bk.e.run.act) (.slice U2 bk.e.run.args.length u2)))
 case first=>
  clear r0 r1 r2 r3 r4 r5 r6 r7 r8 rf hcs9
  have kd:=cY (Hs w9.heap.size w9).drew
  have ka:=cY ((Hs w9.heap.size w9).drew.alloc (Ht _) (.cells z9 51))
  have ka2:=cY ((Hs w9.heap.size w9).alloc (Ht _) (.cells z9 51)).drew
  go_region_held3 (fun w'=>Below w9.heap.size w9 w'∧∀ b o,b<w9.heap.size→w'.cell? ⟨b,o,none⟩=w9.cell? ⟨b,o,none⟩) (first|(with_reducible exact kd)|(with_reducible exact ka)|(with_reducible exact ka2)|(with_reducible exact kb)|(with_reducible exact kz)|(with_reducible exact kc)|(with_reducible exact ks))
   ((go_at_fn 78;refine (hBk2.out _ (by first|(with_reducible exact kd.1)|(with_reducible exact ka.1)|(with_reducible exact ka2.1))).mono ?_;rintro e w10 ⟨rfl,hb10,hb10'⟩;have kb10:=fd hb10';have nC:=aa (iB.new hb10 (.int .u8 bk.kind) (.int .i64 bk.sw) (.int .i64 bk.pos) (.int .i64 bk.e.tab) (.slice U1 bk.e.pats.length u1) (.int .i64 bk.e.len) (.int .i64 bk.e.prio) (.int .i64 bk.e.run.act) (.slice U2 bk.e.run.args.length u2));(first|(have sC:=aa (iB.set2 rfl hb10 hb10' (.int .u8 bk.kind) (.int .i64 bk.sw) (.int .i64 bk.pos) (.int .i64 bk.e.tab) (.slice U1 bk.e.pats.length u1) (.int .i64 bk.e.len) (.int .i64 bk.e.prio) (.int .i64 bk.e.run.act) (.slice U2 bk.e.run.args.length u2)))|skip);have kb:=cY hb10;have kz:=cY (hb10.alloc hb10.size (.cells z9 51));have kc:=cY (hb10.alloc hb10.size (.cells #[.int .u8 bk.kind,.int .i64 bk.sw,.int .i64 bk.pos,.int .i64 bk.e.tab,.slice U1 bk.e.pats.length u1,.int .i64 bk.e.len,.int .i64 bk.e.prio,.int .i64 bk.e.run.act,.slice U2 bk.e.run.args.length u2] 51));have ks:=cY (cI hb10 (Ht _) (.int .u8 bk.kind) (.int .i64 bk.sw) (.int .i64 bk.pos) (.int .i64 bk.e.tab) (.slice U1 bk.e.pats.length u1) (.int .i64 bk.e.len) (.int .i64 bk.e.prio) (.int .i64 bk.e.run.act) (.slice U2 bk.e.run.args.length u2))))
  all_goals go_wp2
  all_goals go_meet
  all_goals first
   |(with_reducible exact ⟨_,rfl,nC⟩)
   |(with_reducible exact ⟨_,rfl,sC⟩)
 case rest=>
  obtain ⟨gb,rfl,hT⟩:=hcut
  obtain ⟨wd,rfl⟩:∃ wd:World,wd=wc:=⟨_,rfl⟩
  obtain ⟨hbc,hgz,hgl,c0,c1,c2,c3,c4,c5,c6,c7,c8⟩:=hT.out
  have hb8c:=hb89.trans (hbc.mono hb89.size)
  clear hB hbv lbv y0 y1 y2 y3 y4 y5 y6 y7 y8 y9 y10 y11 x0 x1 x2 x3 x4 x5 x6 x7 x8 r0 r1 r2 r3 r4 r5 r6 r7 r8 rf l1 l2 l3 l5 k0 k1' k2 k3' he leb
  obtain ⟨⟨⟨y0,y1,y2,y3,y4,y5,y6,y7,y8,y9,y10,y11⟩,⟨x0,x1,x2,x3,x4,x5,x6,x7,x8⟩,⟨r0,r1,r2,r3,r4,r5,r6,r7,r8⟩,rf,l1,l2,l3⟩,⟨k0,k1',k2,k3'⟩,l5,hB,hbv,lbv,he,leb⟩:=hK.out wd hb8c
  have hO10:=aa (hO9.out.below hbc)
  have hcs10:=(hbc.cell (p:=⟨w8.heap.size,s,none⟩) hog).trans hcs9
  have hfz10:∀ i,wd.frozen? ⟨w8.heap.size,i,none⟩=false:=fun i=>cm hO10.out.bx i
  have hogc:w8.heap.size<wd.heap.size:=Hr hog hbc.size
  have hgc:g<wd.heap.size:=Hr hg9 hbc.size
  have hMk2:=aa (fun (W:World) (hW:Below wd.heap.size wd W)=>(hMk.out W w8.heap.size g rn ps ((hW.block g hgc).trans ((hbc.block g hg9).trans hgb.out)) p2.out hpn hrl hbg hone.out).mono fun e w' ⟨v',q1,q2⟩=>(⟨v',q1,q2.behind hW (HL hogc)⟩:∃ v',e=Ending.returned v'∧rP wd w' w8.heap.size g (.slice (some ⟨g,0,none⟩) rn rn) v' rn (ps.take q++(ce,Value.slice B1 t1 d1,Value.slice B2 t5 d2)::ps.drop (q+1))))
  have hfin:=aa (fun (w11:World) (v':Value) (m':Nat) (qs:List (aA×Value×Value)) (hm:rP wd w11 w8.heap.size g (.slice (some ⟨g,0,none⟩) rn rn) v' m' qs) (hq:∀ x∈qs,iG wd B x) (hl:qs.length=m')=>bC.make hO10.out hcs hvs.out hm hq hl)
  have h68:=hb78.size
  have hne:gb≠g:=by omega
  have hne2:gb≠w8.heap.size:=by omega
  have hwz8:w.heap.size+1+1<w8.heap.size:=by have:=hb56.size;omega
  clear hMk hBk2 hbc hcs9 hgb hone hvs he leb hO9
  go_upto_region 13 with fail
  have hn0:w.heap.size+1≠g:=by omega
  have hn5:w5.heap.size≠g:=by omega
  have hno:w8.heap.size≠g:=Ne.symm hgo
  have hl58:w5.heap.size<w8.heap.size:=by omega
  have hl18:w.heap.size+1<w8.heap.size:=by omega
  go_cut [] (fun wx=>∃ (w11:World) (VA:Option Addr) (VC:Nat),wx=w11.setCell ⟨w8.heap.size,s,none⟩ (.slice VA rn VC)∧Hid (rP wd w11 w8.heap.size g (.slice (some ⟨g,0,none⟩) rn rn) (.slice VA rn VC) rn (ps.take q++(ce,Value.slice B1 t1 d1,Value.slice B2 t5 d2)::ps.drop (q+1))))
  case first=>
   clear y0 y1 y2 y3 y4 y5 y6 y7 y8 y9 y10 y11 r0 r1 r2 r3 r4 r5 r6 r7 r8 rf c0 c1 c2 c3 c4 c5 c6 c7 c8 k0 k1' k3' hK hZ
   have kd:∀ b o,b<w8.heap.size→wd.drew.cell? ⟨b,o,none⟩=wd.cell? ⟨b,o,none⟩:=fun _ _ _=>rfl
   refine wp_region_noPanic ?_
   refine wp_region_held_drew (S:=fun w'=>∀ b o,b<w8.heap.size→w'.cell? ⟨b,o,none⟩=wd.cell? ⟨b,o,none⟩) (by kernel_rfl) kd (fun hHeld=> ?_)
   refine wpAnyH_take (i:=0) (v:= ?_) (aT (by simp only [HB,HD,HC];rfl)) (by kernel_rfl) (by kernel_rfl) (by kernel_rfl) (fun _ _ _ h=>h) (Or.inl ⟨by rfl,?_⟩) ‹_› ?_
   rotate_left
   ·intro w hSw
    (try dsimp only at hSw)
    go_simp
    all_goals (with_reducible rfl)
   try simp only [Act.put,HI,HK,HJ]
   refine wpAnyH_take (i:=1) (v:= ?_) (aT (by simp only [HB,HD,HC];rfl)) (by kernel_rfl) (by kernel_rfl) (by kernel_rfl) (fun _ _ _ h=>h) (Or.inl ⟨by rfl,?_⟩) ‹_› ?_
   rotate_left
   ·intro w hSw
    (try dsimp only at hSw)
    go_simp
    all_goals (with_reducible rfl)
   try simp only [Act.put,HI,HK,HJ]
   refine wpAnyH_take (i:=2) (v:= ?_) (aT (by simp only [HB,HD,HC];rfl)) (by kernel_rfl) (by kernel_rfl) (by kernel_rfl) (fun _ _ _ h=>h) (Or.inl ⟨by rfl,?_⟩) ‹_› ?_
   rotate_left
   ·intro w hSw
    (try dsimp only at hSw)
    go_simp
    all_goals (with_reducible rfl)
   try simp only [Act.put,HI,HK,HJ]
   refine wpAnyH_take (i:=3) (v:= ?_) (aT (by simp only [HB,HD,HC];rfl)) (by kernel_rfl) (by kernel_rfl) (by kernel_rfl) (fun _ _ _ h=>h) (Or.inl ⟨by rfl,?_⟩) ‹_› ?_
   rotate_left
   ·intro w hSw
    (try dsimp only at hSw)
    go_simp
    all_goals (with_reducible rfl)
   try simp only [Act.put,HI,HK,HJ]
   refine wpAnyH_take (i:=4) (v:= ?_) (aT (by simp only [HB,HD,HC];rfl)) (by kernel_rfl) (by kernel_rfl) (by kernel_rfl) (fun _ _ _ h=>h) (Or.inl ⟨by rfl,?_⟩) ‹_› ?_
   rotate_left
   ·intro w hSw
    (try dsimp only at hSw)
    go_simp
    all_goals (with_reducible rfl)
   try simp only [Act.put,HI,HK,HJ]
   refine wpAnyH_take (i:=5) (v:= ?_) (aT (by simp only [HB,HD,HC];rfl)) (by kernel_rfl) (by kernel_rfl) (by kernel_rfl) (fun _ _ _ h=>h) (Or.inl ⟨by rfl,?_⟩) ‹_› ?_
   rotate_left
   ·intro w hSw
    (try dsimp only at hSw)
    go_simp
    all_goals (with_reducible rfl)
   try simp only [Act.put,HI,HK,HJ]
   refine wpAnyH_take (i:=6) (v:= ?_) (aT (by simp only [HB,HD,HC];rfl)) (by kernel_rfl) (by kernel_rfl) (by kernel_rfl) (fun _ _ _ h=>h) (Or.inl ⟨by rfl,?_⟩) ‹_› ?_
   rotate_left
   ·intro w hSw
    (try dsimp only at hSw)
    go_simp
    all_goals (with_reducible rfl)
   try simp only [Act.put,HI,HK,HJ]
   refine wpAnyH_take (i:=7) (v:= ?_) (aT (by simp only [HB,HD,HC];rfl)) (by kernel_rfl) (by kernel_rfl) (by kernel_rfl) (fun _ _ _ h=>h) (Or.inl ⟨by rfl,?_⟩) ‹_› ?_
   rotate_left
   ·intro w hSw
    (try dsimp only at hSw)
    go_simp
    all_goals (with_reducible rfl)
   try simp only [Act.put,HI,HK,HJ]
   refine wpAnyH_take (i:=8) (v:= ?_) (aT (by simp only [HB,HD,HC];rfl)) (by kernel_rfl) (by kernel_rfl) (by kernel_rfl) (fun _ _ _ h=>h) (Or.inl ⟨by rfl,?_⟩) ‹_› ?_
   rotate_left
   ·intro w hSw
    (try dsimp only at hSw)
    go_simp
    all_goals (with_reducible rfl)
   try simp only [Act.put,HI,HK,HJ]
   refine wpAnyH_take (i:=10) (v:= ?_) (aT (by simp only [HB,HD,HC];rfl)) (by kernel_rfl) (by kernel_rfl) (by kernel_rfl) (fun _ _ _ h=>h) (Or.inl ⟨by rfl,?_⟩) ‹_› ?_
   rotate_left
   ·intro w hSw
    (try dsimp only at hSw)
    go_simp
    all_goals (with_reducible rfl)
   try simp only [Act.put,HI,HK,HJ]
   refine wpAnyH_ready (rs:= [9]) (by kernel_rfl) (by simp) ?_
   refine AllReadyH.cons (aT (by simp only [HB,HD,HC];rfl)) (fun K hK=> ?_) AllReadyH.nil
   go_simp
   refine hK.out _ _ ?_ (fun hHeld2=> ?_)
   ·exact kd
   clear hK K hHeld
   have hHeld:=hHeld2
   clear hHeld2
   try simp only [Act.put,HI,HK,HJ]
   refine wpAnyH_ready (rs:= [11]) (by kernel_rfl) (by simp) ?_
   refine AllReadyH.cons (aT (by simp only [HB,HD,HC];rfl)) (fun K hK=> ?_) AllReadyH.nil
   go_simp
   go_at_fn 77
   refine (hMk2.out _ (by first|(with_reducible exact (Hs _ _).drew)|(with_reducible exact Hs _ _))).mono ?_
   rintro e w11 ⟨v',rfl,hm⟩
   obtain ⟨VA,VC,rfl⟩:=aR hm.own
   have x1b:=(hm.bel.cell (p:=⟨w.heap.size+1,1,none⟩) hl18).trans x1
   have hcs11:=(World.cell?_of_block (a:=⟨w8.heap.size,s,none⟩) (hm.far w8.heap.size hogc hno)).trans hcs10
   have hfz11:∀ i,w11.frozen? ⟨w8.heap.size,i,none⟩=false:=fun i=>cm ((hm.far w8.heap.size hogc hno).trans hO10.out.bx) i
   have hog11:=Hr hogc hm.bel.size
   have hl11:=HW hl18 hog11
   try go_wp2_with fail
   refine hK.out _ _ ?_ (fun hHeld2=> ?_)
   ·exact fun b o hb=>hm.bel.cell (p:=⟨b,o,none⟩) hb
   clear hK K hHeld
   have hHeld:=hHeld2
   clear hHeld2
   try simp only [Act.put,HI,HK,HJ]
   refine wpAnyH_take (i:=12) (v:= ?_) (aT (by simp only [HB,HD,HC];rfl)) (by kernel_rfl) (by kernel_rfl) (by kernel_rfl) (fun _ _ _ h=>h) (Or.inl ⟨by rfl,?_⟩) ‹_› ?_
   rotate_left
   ·intro w hSw
    (try dsimp only at hSw)
    go_simp
    all_goals (with_reducible rfl)
   try simp only [Act.put,HI,HK,HJ]
   refine wpAnyH_ready (rs:= [13]) (by kernel_rfl) (by simp) ?_
   refine AllReadyH.cons (aT (by simp only [HB,HD,HC];rfl)) (fun K hK=> ?_) AllReadyH.nil
   go_simp
   refine hK.out _ _ ?_ (fun hHeld2=> ?_)
   ·exact fun b o hb=>(World.cell?_of_block (a:=⟨b,o,none⟩) (ak (Nat.ne_of_lt hb))).trans (hm.bel.cell (p:=⟨b,o,none⟩) hb)
   clear hK K hHeld
   have hHeld:=hHeld2
   clear hHeld2
   try simp only [Act.put,HI,HK,HJ]
   refine wpAnyH_done (by kernel_rfl) ?_ _
   refine NoPanic.normal ?_
   go_wp2_with fail
   go_meet
   exact ⟨w11,VA,VC,rfl,aa hm⟩
  case rest=>
   obtain ⟨w11,VA,VC,hwx,hm⟩:=hcut
   obtain ⟨hr1,hr2⟩:=hRow.out ps wd p1.out hB (fun x hx=>(hpI.out x hx).keep fun a ha=>World.cell?_of_block (hT.out.1.block a.block (by omega)))
   have hOm:=hfin.out w11 _ _ _ hm.out hr2 (by simp;have:=p2.out;omega)
   rw [hr1,←hwx] at hOm
   have hff:∀ k,k<wd.heap.size→k≠g→k≠w8.heap.size→wc.heap[k]? =wd.heap[k]? :=fun k h1 h2 h3=>by
    rw [hwx,ak h3]
    exact hm.out.far k h1 h2
   have hb14:=hb8c.trans (hOm.2.mono h68)
   have hgl14:=Hr hgl hOm.2.size
   replace c0:=(World.cell?_of_block (a:=⟨gb,0,none⟩) (hff gb hgl hne hne2)).trans c0
   replace c1:=(World.cell?_of_block (a:=⟨gb,1,none⟩) (hff gb hgl hne hne2)).trans c1
   replace c2:=(World.cell?_of_block (a:=⟨gb,2,none⟩) (hff gb hgl hne hne2)).trans c2
   replace c3:=(World.cell?_of_block (a:=⟨gb,3,none⟩) (hff gb hgl hne hne2)).trans c3
   replace c4:=(World.cell?_of_block (a:=⟨gb,4,none⟩) (hff gb hgl hne hne2)).trans c4
   replace c5:=(World.cell?_of_block (a:=⟨gb,5,none⟩) (hff gb hgl hne hne2)).trans c5
   replace c6:=(World.cell?_of_block (a:=⟨gb,6,none⟩) (hff gb hgl hne hne2)).trans c6
   replace c7:=(World.cell?_of_block (a:=⟨gb,7,none⟩) (hff gb hgl hne hne2)).trans c7
   replace c8:=(World.cell?_of_block (a:=⟨gb,8,none⟩) (hff gb hgl hne hne2)).trans c8
   clear hB hbv lbv y0 y1 y2 y3 y4 y5 y6 y7 y8 y9 y10 y11 x0 x1 x2 x3 x4 x5 x6 x7 x8 r0 r1 r2 r3 r4 r5 r6 r7 r8 rf l1 l2 l3 l5 k0 k1' k2 k3'
   obtain ⟨⟨⟨y0,y1,y2,y3,y4,y5,y6,y7,y8,y9,y10,y11⟩,⟨x0,x1,x2,x3,x4,x5,x6,x7,x8⟩,⟨r0,r1,r2,r3,r4,r5,r6,r7,r8⟩,rf,l1,l2,l3⟩,⟨k0,k1',k2,k3'⟩,l5,hB,hbv,lbv,he,leb⟩:=hK.out wc hb14
   have hrg:w.heap.size+1+1≠gb:=by omega
   have hwx':=aa hwx
   have hOm':=aa hOm
   clear hwx hOm hff hcs10 hfz10 hO10 hMk2 hfin
   go_upto_region 14 with fail
   go_region
   all_goals go_wp2
   all_goals refine bodyPost_ret (v:=.tuple #[.slice (some ⟨w8.heap.size,0,none⟩) l.length l.length,.agg #[.int .u8 bk.kind,.int .i64 bk.sw,.int .i64 bk.pos,.int .i64 bk.e.tab,.slice U1 bk.e.pats.length u1,.int .i64 bk.e.len,.int .i64 bk.e.prio,.int .i64 bk.e.run.act,.slice U2 bk.e.run.args.length u2],.int .i64 0]) (by simp [results,results11,go_sem,l1,l2,l3,rf,r0,r1,r2,r3,r4,r5,r6,r7,r8]) rfl ?_
   all_goals refine ⟨w8.heap.size,w8.heap.size,_,U1,u1,U2,u2,rfl,hBz,bC.far hOm'.out.1 (fun a ha=>World.cell?_of_block ?_) (fun k hk=> ?_),s1.keep ay fun a ha=>Below.cell (w:=w) ?_ (Hr ha hBw),s2.keep aq fun a ha=>Below.cell (w:=w) ?_ (Hr ha hBw),?_⟩
   all_goals first
    |(with_reducible exact jF (Eg (by omega) _ _ _ _ _ _ _ _ _))
    |(with_reducible exact (cI hB (by omega) _ _ _ _ _ _ _ _ _).drew)
end
def uk (B:Nat) (n:Nat) (w:World) (r:Except Int (List (List aA)×bn)) (e:Ending) (w':World):Prop:=match r with
 | .error er=>e=.returned (.tuple #[.slice none 0 0,ui,.int .i64 er])∧Below w.heap.size w w'
 | .ok r=>Bb B r.1 r.2 n w e w'
theorem Dh (A1 A2 A3 A4 A5 A6 A7 A8 A9 A10 A11 A12:Option Addr) (p:Lp) (c1 c2 c3 c4 c5 c6 c7 c8 c9 c10 c11 c12:Nat) (c:bn) (AL B1 B2:Option Addr) (cL d1 d2 B:Nat) (l:List (List aA)) (w:World) (hBw:B≤w.heap.size) (h:cz w w.heap.size A1 A2 A3 A4 A5 A6 A7 A8 A9 A10 A11 A12 p) (hl:dB w w.heap.size B AL l) (hl100:l.length≤100) (hr:∀ x∈l,x.length≤1000) (hp:Sl 4 gT w B B1 c.e.pats) (hq:Sl 2 f8 w B B2 c.e.run.args) (hk:u8 c.kind):
  Calls prog 11 #[.agg (aO A1 A2 A3 A4 A5 A6 A7 A8 A9 A10 A11 A12 p c1 c2 c3 c4 c5 c6 c7 c8 c9 c10 c11 c12),.slice AL l.length cL,eV B1 d1 B2 d2 c] w (uk B l.length w (ke p l c)):=by
 unfold aO
 unfold ke
 by_cases k13:1≤c.kind∧c.kind≤3
 ·by_cases h1:lI p l c=false
  ·rw [if_pos h1]
   exact xV A1 A2 A3 A4 A5 A6 A7 A8 A9 A10 A11 A12 p c1 c2 c3 c4 c5 c6 c7 c8 c9 c10 c11 c12 c AL B1 B2 cL d1 d2 B l w hBw h hl hl100 hr hp hq hk k13.1 k13.2 h1
  ·rw [if_neg h1]
   have h1':lI p l c=true:=by simpa using h1
   by_cases h2:sA (ed l c) c=false
   ·rw [if_pos h2]
    exact Bv A1 A2 A3 A4 A5 A6 A7 A8 A9 A10 A11 A12 p c1 c2 c3 c4 c5 c6 c7 c8 c9 c10 c11 c12 c AL B1 B2 cL d1 d2 B l w hBw h hl hl100 hr hp hq hk k13.1 k13.2 h1' h2
   ·rw [if_neg h2]
    have h2':sA (ed l c) c=true:=by simpa using h2
    by_cases h3:uL (ed l c) c=true
    ·rw [if_pos h3]
     exact Bw A1 A2 A3 A4 A5 A6 A7 A8 A9 A10 A11 A12 p c1 c2 c3 c4 c5 c6 c7 c8 c9 c10 c11 c12 c AL B1 B2 cL d1 d2 B l w hBw h hl hl100 hr hp hq hk k13.1 k13.2 h1' h2' h3
    ·rw [if_neg h3]
     have h3':uL (ed l c) c=false:=by simpa using h3
     rcases (show c.kind=1∨c.kind=2∨c.kind=3 by omega) with e|e|e
     ·exact xW A1 A2 A3 A4 A5 A6 A7 A8 A9 A10 A11 A12 p c1 c2 c3 c4 c5 c6 c7 c8 c9 c10 c11 c12 c AL B1 B2 cL d1 d2 B l w hBw h hl hl100 hr hp hq hk e h1' h2' h3'
     ·exact xX A1 A2 A3 A4 A5 A6 A7 A8 A9 A10 A11 A12 p c1 c2 c3 c4 c5 c6 c7 c8 c9 c10 c11 c12 c AL B1 B2 cL d1 d2 B l w hBw h hl hl100 hr hp hq hk e h1' h2' h3'
     ·exact xY A1 A2 A3 A4 A5 A6 A7 A8 A9 A10 A11 A12 p c1 c2 c3 c4 c5 c6 c7 c8 c9 c10 c11 c12 c AL B1 B2 cL d1 d2 B l w hBw h hl hl100 hr hp hq hk e h1' h2' h3'
 ·have h1:lI p l c=false:=by
   unfold lI
   rw [Ib,Ib]
   left
   simp only [decide_eq_false_iff_not]
   omega
  rw [if_pos h1]
  exact uj A1 A2 A3 A4 A5 A6 A7 A8 A9 A10 A11 A12 p c1 c2 c3 c4 c5 c6 c7 c8 c9 c10 c11 c12 c AL B1 B2 cL d1 d2 l.length w hk k13
theorem Bx {p:Lp} {l:List (List aA)} {c:bn} {r:List (List aA)×bn} {M:Nat} (h:ke p l c=.ok r) (hM:64≤M) (hr:∀ x∈l,x.length≤M):r.1.length=l.length∧∀ x∈r.1,x.length≤M:=by
 obtain ⟨hk,-,hs,-,hp,h1,h2,rfl⟩:=pi h
 refine ⟨by simp,fun x hx=> ?_⟩
 rcases List.mem_or_eq_of_mem_set hx with hx|rfl
 ·exact hr x hx
 ·have hrow:=hr (ed l c) (by rw [dx hs.2];exact HE _)
  unfold ch
  rcases (show c.kind=1∨c.kind=2∨c.kind=3 by omega) with e|e|e
  ·have:=h1 e
   simp [e]
   omega
  ·simp [e]
   omega
  ·have:=h2 (by omega)
   simp [e]
   omega
theorem gF (ps:List (bn×Value×Value)):(ps.flatMap cq).length=ps.length*9:=by
 induction ps with
 |nil=>rfl
 |cons x r ih=>rw [Ia,HM,ih,HN];simp [cq];omega
theorem By {ps:List (bn×Value×Value)} {i k:Nat} (hi:i<ps.length) {u:Value} (hu:(cq ps[i])[k]? =some u):(ps.flatMap cq)[i*9+k]? =some u:=by
 have h1:ps=ps.take i++ps[i]::ps.drop (i+1):=by rw [List.getElem_cons_drop,Ig]
 have hk:k<9:=(H1.1 hu).1
 rw [h1,Io,Ia,Ik (by rw [gF,HO];omega),gF,HO,Nat.min_eq_left (by omega),show i*9+k-i*9=k by omega,Ip (by exact hk)]
 exact hu
theorem Bz {ps:List (bn×Value×Value)} {i:Nat} (hi:i<ps.length) (x:bn×Value×Value):(ps.set i x).flatMap cq=(ps.flatMap cq).take (i*9)++cq x++(ps.flatMap cq).drop (i*9+9):=by
 have h1:ps=ps.take i++ps[i]::ps.drop (i+1):=by rw [List.getElem_cons_drop,Ig]
 have hl:((ps.take i).flatMap cq).length=i*9:=by rw [gF,HO];omega
 have e9:(cq ps[i]).length=9:=rfl
 have hs:ps.set i x=ps.take i++x::ps.drop (i+1):=by rw [List.set_eq_take_append_cons_drop,if_pos hi]
 have hf:ps.flatMap cq=(ps.take i).flatMap cq++(cq ps[i]++(ps.drop (i+1)).flatMap cq):=by conv=>lhs;rw [h1,Io,Ia]
 rw [hs,Io,Ia,hf]
 generalize (ps.take i).flatMap cq=X at*
 generalize (ps.drop (i+1)).flatMap cq=Y at*
 rw [Il (by omega),H6 (by omega),List.drop_append,Im (by omega),List.nil_append,hl,show i*9+9-i*9=9 by omega,List.drop_append,Im (by omega),e9]
 simp
theorem Fv {α:Type} (L:List α) (k:Nat) (h:k+9≤L.length) (u0 u1 u2 u3 u4 u5 u6 u7 u8:α):
  (((((((((L.set (k) u0).set (k+1) u1).set (k+2) u2).set (k+3) u3).set (k+4) u4).set (k+5) u5).set (k+6) u6).set (k+7) u7).set (k+8) u8)=L.take k++ [u0,u1,u2,u3,u4,u5,u6,u7,u8]++L.drop (k+9):=by
 apply List.ext_getElem?
 intro m
 simp only [List.getElem?_set]
 have hT:(L.take k++ [u0,u1,u2,u3,u4,u5,u6,u7,u8]).length=k+9:=by simp;omega
 by_cases h1:m<k
 focus
  rw [List.append_assoc,Ip (by rw [HO];omega),List.getElem?_take_of_lt h1]
  repeat rw [if_neg (by omega)]
 rotate_right
 focus
  by_cases h2:m<k+9
  focus
   rw [Ip (by omega),Ik (by rw [HO];omega),HO,Nat.min_eq_left (by omega)]
   rcases (show m=k∨m=k+1∨m=k+2∨m=k+3∨m=k+4∨m=k+5∨m=k+6∨m=k+7∨m=k+8 by omega) with rfl|rfl|rfl|rfl|rfl|rfl|rfl|rfl|rfl
  rotate_right
  focus
   rw [Ik (by omega),hT,List.getElem?_drop,show k+9+(m-(k+9))=m by omega]
   repeat rw [if_neg (by omega)]
 all_goals
  simp;omega
theorem Fw {g k i:Nat} {W:World} (h:k≠g) (u0 u1 u2 u3 u4 u5 u6 u7 u8:Value):((((((((((W.setCell ⟨g,i*9,none⟩ u0).setCell ⟨g,i*9+1,none⟩ u1).setCell ⟨g,i*9+2,none⟩ u2).setCell ⟨g,i*9+3,none⟩ u3).setCell ⟨g,i*9+4,none⟩ u4).setCell ⟨g,i*9+5,none⟩ u5).setCell ⟨g,i*9+6,none⟩ u6).setCell ⟨g,i*9+7,none⟩ u7).setCell ⟨g,i*9+8,none⟩ u8)).heap[k]? =W.heap[k]? :=by
 rw [ak h,ak h,ak h,ak h,ak h,ak h,ak h,ak h,ak h]
theorem sa {W:World} {base g n cap i:Nat} {qs:List (bn×Value×Value)} (h:W.ownsRow base 51 9 (.slice (some ⟨g,0,none⟩) n cap) n (qs.flatMap cq)) (hn:qs.length=n) (hi:i<n) (x:bn×Value×Value) (u0 u1 u2 u3 u4 u5 u6 u7 u8:Value) (hx:cq x= [u0,u1,u2,u3,u4,u5,u6,u7,u8]):
  ((((((((((W.setCell ⟨g,i*9,none⟩ u0).setCell ⟨g,i*9+1,none⟩ u1).setCell ⟨g,i*9+2,none⟩ u2).setCell ⟨g,i*9+3,none⟩ u3).setCell ⟨g,i*9+4,none⟩ u4).setCell ⟨g,i*9+5,none⟩ u5).setCell ⟨g,i*9+6,none⟩ u6).setCell ⟨g,i*9+7,none⟩ u7).setCell ⟨g,i*9+8,none⟩ u8)).ownsRow base 51 9 (.slice (some ⟨g,0,none⟩) n cap) n ((qs.set i x).flatMap cq)∧
   (∀ k,k≠g→((((((((((W.setCell ⟨g,i*9,none⟩ u0).setCell ⟨g,i*9+1,none⟩ u1).setCell ⟨g,i*9+2,none⟩ u2).setCell ⟨g,i*9+3,none⟩ u3).setCell ⟨g,i*9+4,none⟩ u4).setCell ⟨g,i*9+5,none⟩ u5).setCell ⟨g,i*9+6,none⟩ u6).setCell ⟨g,i*9+7,none⟩ u7).setCell ⟨g,i*9+8,none⟩ u8)).heap[k]? =W.heap[k]?)∧Below base W (((((((((W.setCell ⟨g,i*9,none⟩ u0).setCell ⟨g,i*9+1,none⟩ u1).setCell ⟨g,i*9+2,none⟩ u2).setCell ⟨g,i*9+3,none⟩ u3).setCell ⟨g,i*9+4,none⟩ u4).setCell ⟨g,i*9+5,none⟩ u5).setCell ⟨g,i*9+6,none⟩ u6).setCell ⟨g,i*9+7,none⟩ u7).setCell ⟨g,i*9+8,none⟩ u8):=by
 obtain ⟨hl,hr⟩:=h
 rcases hr with ⟨e,-⟩|⟨b,cap',cur,e,hb,hc,hn',hm,hs,ht⟩
 ·cases e
 ·injection e with e1 e2 e3
  injection e1 with e1
  injection e1 with e1
  subst e1 e3
  have hg:base≤g:=hb
  have h0:=ax (k:=i*9) (v:=u0) hc
  have h1:=ax (k:=i*9+1) (v:=u1) h0
  have h2:=ax (k:=i*9+2) (v:=u2) h1
  have h3:=ax (k:=i*9+3) (v:=u3) h2
  have h4:=ax (k:=i*9+4) (v:=u4) h3
  have h5:=ax (k:=i*9+5) (v:=u5) h4
  have h6:=ax (k:=i*9+6) (v:=u6) h5
  have h7:=ax (k:=i*9+7) (v:=u7) h6
  have h8:=ax (k:=i*9+8) (v:=u8) h7
  refine ⟨⟨by rw [gF,List.length_set,hn],.inr ⟨g,cap,_,rfl,hg,h8,hn',hm,by simpa using hs,?_⟩⟩,fun k hk=>Fw hk _ _ _ _ _ _ _ _ _,((((((((((Hs _ _).setCell (p:=⟨g,i*9,none⟩) hg u0).setCell (p:=⟨g,i*9+1,none⟩) hg u1).setCell (p:=⟨g,i*9+2,none⟩) hg u2).setCell (p:=⟨g,i*9+3,none⟩) hg u3).setCell (p:=⟨g,i*9+4,none⟩) hg u4).setCell (p:=⟨g,i*9+5,none⟩) hg u5).setCell (p:=⟨g,i*9+6,none⟩) hg u6).setCell (p:=⟨g,i*9+7,none⟩) hg u7).setCell (p:=⟨g,i*9+8,none⟩) hg u8)⟩
  simp only [Array.toList_setIfInBounds]
  rw [List.take_set,List.take_set,List.take_set,List.take_set,List.take_set,List.take_set,List.take_set,List.take_set,List.take_set,ht]
  rw [Fv _ _ (by rw [gF,hn];omega),Bz (by omega),hx]
theorem mH {W:World} {base g n cap:Nat} {qs:List (bn×Value×Value)} (h:W.ownsRow base 51 9 (.slice (some ⟨g,0,none⟩) n cap) n (qs.flatMap cq)) {i k:Nat} (hi:i<qs.length) {u:Value} (hu:(cq qs[i])[k]? =some u):W.cell? ⟨g,i*9+k,none⟩=some u∧W.frozen? ⟨g,i*9+k,none⟩=false:=by
 have hj:=By hi hu
 obtain ⟨hl,hr⟩:=h
 rcases hr with ⟨e,-⟩|⟨b,cap',cur,e,hb,hc,hn',hm,hs,ht⟩
 ·cases e
 ·injection e with e1 e2 e3
  injection e1 with e1
  injection e1 with e1
  subst e1
  rw [←ht] at hj
  have hlt:i*9+k<n*9:=by
   have:=(H1.1 hj).1
   rw [HO] at this
   omega
  rw [List.getElem?_take_of_lt hlt] at hj
  exact ⟨(aH hc _).trans (by simpa using hj),cm hc _⟩
theorem BA {W:World} {base k n:Nat} {e:TypeId} {v:Value} {xs:List Value} (h:W.ownsRow base e k v n xs):W.drew.ownsRow base e k v n xs:=h
theorem BB {W w:World} {k:Nat} (h:W.heap[k]? =w.heap[k]?):W.drew.heap[k]? =w.heap[k]? :=h
def pL (ps qs:List (bn×Value×Value)) (i:Nat):Prop:=qs.length=ps.length∧∀ k (h:k<qs.length),qs[k]? =if k<i∨ps.length≤k+i then ps[ps.length-1-k]? else ps[k]?
theorem pL.zero (ps:List (bn×Value×Value)):pL ps ps 0:=⟨rfl,fun k h=>by rw [if_neg (by omega)]⟩
theorem pL.step {ps qs:List (bn×Value×Value)} {i j:Nat} (h:pL ps qs i) (hij:i<j) (hj:i+j+1=ps.length) (h1:i<qs.length) (h2:j<qs.length):pL ps ((qs.set i qs[j]).set j qs[i]) (i+1):=by
 obtain ⟨hl,hk⟩:=h
 have hi':=hk i h1
 have hj':=hk j h2
 rw [if_neg (by omega)] at hi' hj'
 rw [HA h1] at hi'
 rw [HA h2] at hj'
 refine ⟨by simp [hl],fun k h=> ?_⟩
 simp only [List.length_set] at h
 rw [List.getElem?_set,List.getElem?_set,List.length_set]
 by_cases e1:j=k
 ·subst e1
  rw [if_pos rfl,if_pos h2,if_pos (by omega),hi',show ps.length-1-j=i by omega]
 ·rw [if_neg e1]
  by_cases e2:i=k
  ·subst e2
   rw [if_pos rfl,if_pos h1,if_pos (by omega),hj',show ps.length-1-i=j by omega]
  ·rw [if_neg e2,hk k h]
   by_cases e3:k<i∨ps.length≤k+i
   ·rw [if_pos e3,if_pos (by omega)]
   ·rw [if_neg e3,if_neg (by omega)]
theorem pL.last {ps qs:List (bn×Value×Value)} {i:Nat} (h:pL ps qs i) (hi:ps.length≤i+i+1):qs=ps.reverse:=by
 obtain ⟨hl,hk⟩:=h
 apply List.ext_getElem?
 intro k
 by_cases hkl:k<ps.length
 ·rw [hk k (by omega),List.getElem?_reverse hkl]
  by_cases e3:k<i∨ps.length≤k+i
  ·rw [if_pos e3]
  ·rw [if_neg e3,show ps.length-1-k=k by omega]
 ·rw [List.getElem?_eq_none (by omega),List.getElem?_eq_none (by simp;omega)]
theorem Fx {base B:Nat} (v:Value) (l:List bn) (w:World) (h:iC w base B v l) (hn:l.length≤1000) (hBb:B≤base):
  Calls prog 19 #[v] w fun e w'=>e=.returned (.tuple #[])∧iC w' base B v l.reverse∧(∀ k,v.ownBlock≠some k→w'.heap[k]? =w.heap[k]?)∧Below base w w':=by
 obtain ⟨ps,p0,hO,hI⟩:=h
 have hl:ps.length=l.length:=by rw [←p0,H4]
 by_cases h1:l.length≤1
 ·have hrev:l.reverse=l:=by
   match l,h1 with
   | [],_=>rfl
   | [x],_=>rfl
  rw [hrev]
  have hfin:iC w base B v l:=⟨ps,p0,hO,hI⟩
  obtain ⟨A1,c1,rfl⟩:=hfin.form
  replace hfin:=aa hfin
  have hz:¬(0:Int)<(l.length:Int)-1:=by omega
  have dz:decide ((0:Int)<(l.length:Int)-1)=false:=decide_eq_false hz
  replace hz:=aa hz
  replace hl:=aa hl
  clear hO hI
  generalize l.length=n at*
  go_enter func19,ntmps19
  go_wp2
  go_loopw [2,3] (fun v2 v3 wr=>v2=.int .i64 0∧v3=.int .i64 ((n:Int)-1)∧wr=w) (fun _ _ _=>0)
  case atStart=>exact ⟨rfl,by go_num,rfl⟩
  case round=>
   obtain ⟨rfl,rfl,rfl⟩:=hrel
   go_wp2
   refine bodyPost_end (results_none rfl _ _ _) rfl ?_
   exact ⟨rfl,hfin.out,fun k _=>rfl,Hs _ _⟩
 ·obtain ⟨g,cap,rfl⟩:∃ g cap,v=.slice (some ⟨g,0,none⟩) ps.length cap:=by
   rcases hO.2 with ⟨-,hz⟩|⟨g,cap,cur,e,-⟩
   ·omega
   ·exact ⟨g,cap,e⟩
  have hgl:g<w.heap.size:=(hO.lt g rfl).2
  have hbg:base≤g:=(hO.lt g rfl).1
  have hlz:ps.length≤1000:=by omega
  replace hO:=aa hO
  replace hI:=aa hI
  replace p0:=aa p0
  replace hl:=aa hl
  replace hBb:=aa hBb
  obtain ⟨n,hn'⟩:∃ n,n=ps.length:=⟨_,rfl⟩
  rw [←hn'] at hO hlz ⊢
  replace hn':=aa hn'
  go_enter func19,ntmps19
  go_wp2
  go_loopw [2,3] (fun v2 v3 wr=>∃ (i:Nat) (J:Int) (qs:List (bn×Value×Value)),v2=.int .i64 (i:Int)∧v3=.int .i64 J∧Hid (J=(n:Int)-1-(i:Int))∧i≤n∧g<wr.heap.size∧Hid (pL ps qs i)∧Hid (wr.ownsRow base 51 9 (.slice (some ⟨g,0,none⟩) n cap) n (qs.flatMap cq))∧Hid (∀ x∈qs,x∈ps)∧Hid (∀ k,k≠g→wr.heap[k]? =w.heap[k]?)∧Hid (Below base w wr)) (fun v2 _ _=>n-(RowKit.intOf v2).toNat)
  case atStart=>exact ⟨0,(n:Int)-1,ps,rfl,by go_num,aa (by omega),Hz _,hgl,aa (pL.zero ps),hO,aa (fun x hx=>hx),aa (fun k _=>rfl),aa (Hs _ _)⟩
  case round=>
   clear hO
   obtain ⟨i,J,qs,rfl,rfl,hJ,hi,hgr,hR,hO,hM,hF,hB⟩:=hrel
   have hql:qs.length=n:=by rw [hR.out.1];exact hn'.out.symm
   by_cases hij:(i:Int)<J
   ·obtain ⟨j,rfl⟩:=HH (show 0≤J by omega)
    have hjn:i+j+1=n:=by have:=hJ.out;omega
    have hij':i<j:=by omega
    have hj:j<n:=by omega
    have hin:i<n:=by omega
    have iz:(i:Int)<(n:Int):=by omega
    have jz:(j:Int)<(n:Int):=by omega
    have dij:decide ((i:Int)<(j:Int))=true:=decide_eq_true hij
    obtain ⟨y,hy⟩:∃ y,y=qs[i]:=⟨_,rfl⟩
    obtain ⟨z,hz⟩:∃ z,z=qs[j]:=⟨_,rfl⟩
    have ky:=fun k u (hu:(cq y)[k]? =some u)=>mH hO.out (i:=i) (k:=k) (u:=u) (by omega) (by rw [←hy];exact hu)
    have kz:=fun k u (hu:(cq z)[k]? =some u)=>mH hO.out (i:=j) (k:=k) (u:=u) (by omega) (by rw [←hz];exact hu)
    have hym:y∈qs:=by rw [hy];exact HE _
    have hzm:z∈qs:=by rw [hz];exact HE _
    have hyI:=hI.out y (hM.out y hym)
    have hzI:=hI.out z (hM.out z hzm)
    obtain ⟨⟨YA,yc,ye,-⟩,YB,yd,yf,-⟩:=hyI
    obtain ⟨⟨ZA,zc,ze,-⟩,ZB,zd,zf,-⟩:=hzI
    have hstep:=hR.out.step hij' (by rw [←hn'.out];exact hjn) (by omega) (by omega)
    rw [←hy,←hz] at hstep
    simp only at ye yf ze zf
    obtain ⟨o1,f1,q1b⟩:=sa hO.out hql hin z (.int .u8 z.1.kind) (.int .i64 z.1.sw) (.int .i64 z.1.pos) (.int .i64 z.1.e.tab) (.slice ZA z.1.e.pats.length zc) (.int .i64 z.1.e.len) (.int .i64 z.1.e.prio) (.int .i64 z.1.e.run.act) (.slice ZB z.1.e.run.args.length zd) (by unfold cq;rw [ze,zf])
    obtain ⟨o2,f2,q2b⟩:=sa (i:=j) o1 (by rw [List.length_set];exact hql) hj y (.int .u8 y.1.kind) (.int .i64 y.1.sw) (.int .i64 y.1.pos) (.int .i64 y.1.e.tab) (.slice YA y.1.e.pats.length yc) (.int .i64 y.1.e.len) (.int .i64 y.1.e.prio) (.int .i64 y.1.e.run.act) (.slice YB y.1.e.run.args.length yd) (by unfold cq;rw [ye,yf])
    have hfin:=aa (And.intro hstep (And.intro (BA o2) (And.intro (fun x (hx:x∈(qs.set i z).set j y)=>(show x∈ps from by
     rcases List.mem_or_eq_of_mem_set hx with hx|rfl
     ·rcases List.mem_or_eq_of_mem_set hx with hx|rfl
      ·exact hM.out x hx
      ·exact hM.out _ hzm
     ·exact hM.out _ hym)) (And.intro (fun k (hk:k≠g)=>BB ((f2 k hk).trans ((f1 k hk).trans (hF.out k hk)))) ((hB.out.trans q1b).trans q2b).drew))))
    have hfz:∀ k,wr.frozen? ⟨g,k,none⟩=false:=fun k=>by
     rcases hO.out.2 with ⟨e,-⟩|⟨b,cap',cur,e,hb,hc,-⟩
     ·cases e
     ·injection e with e1 e2 e3
      injection e1 with e1
      injection e1 with e1
      subst e1
      exact cm hc k
    have a0:=(ky 0 _ rfl).1
    have b0:=(kz 0 _ rfl).1
    have a1:=(ky 1 _ rfl).1
    have b1:=(kz 1 _ rfl).1
    have a2:=(ky 2 _ rfl).1
    have b2:=(kz 2 _ rfl).1
    have a3:=(ky 3 _ rfl).1
    have b3:=(kz 3 _ rfl).1
    have a4:=(ky 4 _ rfl).1
    have b4:=(kz 4 _ rfl).1
    have a5:=(ky 5 _ rfl).1
    have b5:=(kz 5 _ rfl).1
    have a6:=(ky 6 _ rfl).1
    have b6:=(kz 6 _ rfl).1
    have a7:=(ky 7 _ rfl).1
    have b7:=(kz 7 _ rfl).1
    have a8:=(ky 8 _ rfl).1
    have b8:=(kz 8 _ rfl).1
    simp only [Nat.add_zero] at a0 b0
    rw [ye] at a4
    rw [yf] at a8
    rw [ze] at b4
    rw [zf] at b8
    clear ky kz o1 f1 q1b o2 f2 q2b hstep hO hM hF hB hR hJ hy hz hql hym hzm ye yf ze zf
    generalize y.1.e.pats.length=yl at*
    generalize y.1.e.run.args.length=ym at*
    generalize z.1.e.pats.length=zl at*
    generalize z.1.e.run.args.length=zm at*
    go_wp2
    go_region
    all_goals go_wp2
    all_goals go_roundw
    all_goals first
     | (obtain ⟨z1,z2,z3,z4,z5⟩:=hfin.out
        refine ⟨i+1,(j:Int)-1,(qs.set i z).set j y,by go_num,by go_num,aa (by omega),hin,?_,aa z1,?_,aa z3,?_,?_⟩
        · with_reducible exact (z2.lt g rfl).2
        · with_reducible exact aa z2
        · with_reducible exact aa z4
        · with_reducible exact aa z5)
     |(simp [RowKit.intOf];omega)
   ·have dij:decide ((i:Int)<J)=false:=decide_eq_false hij
    have hJ':=hJ.out
    have hlast:=hR.out.last (by rw [←hn'.out];omega)
    have hfin:iC wr base B (.slice (some ⟨g,0,none⟩) n cap) l.reverse:=by
     refine ⟨ps.reverse,by rw [List.map_reverse,p0.out],?_,fun x hx=>iG.keep (hI.out x (List.mem_reverse.1 hx)) fun a ha=>hB.out.cell (Hr ha hBb.out)⟩
     rw [List.length_reverse,←hn'.out,←hlast]
     exact hO.out
    replace hfin:=aa hfin
    clear hO hR hlast hJ hJ'
    go_wp2
    refine bodyPost_end (results_none rfl _ _ _) rfl ?_
    exact ⟨rfl,hfin.out,fun k hk=>hF.out k (fun e=>hk (by rw [e];rfl)),hB.out⟩
section
def jH (B n m:Nat) (w:World) (r:Except (Nat×Int) (List (List aA)×List bn)) (e:Ending) (w':World):Prop:=match r with
 | .error x=>e=.returned (.tuple #[.slice none 0 0,.slice none 0 0,.int .i64 (x.1:Int),.int .i64 x.2])∧Below w.heap.size w w'
 | .ok r=>∃ b og vs v,e=.returned (.tuple #[.slice (some ⟨og,0,none⟩) n n,v,.int .i64 (m:Int),.int .i64 0])∧w.heap.size≤b∧bC w' b B og vs r.1∧iC w' w.heap.size B v r.2∧Below w.heap.size w w'
theorem iC.low {w:World} {base base' B:Nat} {v:Value} {l:List bn} (h:iC w base B v l) (hb:base'≤base):iC w base' B v l:=by
 obtain ⟨ps,h0,h1,h2⟩:=h
 exact ⟨ps,h0,cM h1 hb,h2⟩
attribute [local go_sem ↓] cH
theorem BC (A1 A2 A3 A4 A5 A6 A7 A8 A9 A10 A11 A12:Option Addr) (p:Lp) (c1 c2 c3 c4 c5 c6 c7 c8 c9 c10 c11 c12:Nat) (AL AC:Option Addr) (cL cC B M:Nat) (l:List (List aA)) (cs:List bn) (w:World) (hBw:B≤w.heap.size) (h:cz w w.heap.size A1 A2 A3 A4 A5 A6 A7 A8 A9 A10 A11 A12 p) (hl:dB w w.heap.size B AL l) (hl100:l.length≤100) (hM:64≤M) (hM2:M≤1000) (hr:∀ x∈l,x.length≤M) (hcs:Sl 9 nz w B AC cs) (hc20:cs.length≤100) (hk:∀ c∈cs,u8 c.kind):
  Calls prog 7 #[.agg (aO A1 A2 A3 A4 A5 A6 A7 A8 A9 A10 A11 A12 p c1 c2 c3 c4 c5 c6 c7 c8 c9 c10 c11 c12),.slice AL l.length cL,.slice AC cs.length cC] w (jH B l.length cs.length w (cQ p l [] 0 cs)):=by
 unfold aO
 obtain ⟨R,hR⟩:∃ R,R=cQ p l [] 0 cs:=⟨_,rfl⟩
 rw [←hR]
 have hA0:R=cQ p l ([]:List bn).reverse 0 (cs.drop 0):=hR
 replace hA0:=aa hA0
 clear hR
 obtain ⟨wz,hwz,hsz,hbz,hcz,-⟩:=af w (aO A1 A2 A3 A4 A5 A6 A7 A8 A9 A10 A11 A12 p c1 c2 c3 c4 c5 c6 c7 c8 c9 c10 c11 c12) 33
 obtain ⟨y0,y1,y2,y3,y4,y5,y6,y7,y8,y9,y10,y11⟩:=aF hcz
 have lz:w.heap.size<wz.heap.size:=by omega
 have hOw:=aa (vj AL cL B l wz (Hw hBw hbz.size) ((hl.below hbz (Ht _) hBw).more hbz.size) hl100 (fun x hx=>Hw (hr x hx) hM2))
 replace hsz:=aa hsz
 have hYW:=aa (fun (W:World) (hW:Below wz.heap.size wz W)=>aF fun i=>(hW.cell (p:=⟨w.heap.size,i,none⟩) lz).trans (hcz i))
 have hbw:=aa (fun (W:World) (hW:Below wz.heap.size wz W)=>hbz.trans (hW.mono hbz.size))
 have hAp:=aa (fun (W:World) (hW:Below wz.heap.size wz W) (c:bn) (og B1 d1 B2 d2:Nat)=>True.intro)
 have hSt:=aa (fun (i:Nat) (hi:i<cs.length)=>hcs.chg hi)
 have hP:=aa (fun (W:World) (hW:Below w.heap.size w W)=>(h.below hW).more hW.size)
 have hbzz:=hbz.size
 have hC0:=hcs.len
 replace hk:=aa hk
 clear hAp h hl hcs hcz y0 y1 y2 y3 y4 y5 y6 y7 y8 y9 y10 y11 hbz
 go_enter func7,ntmps7
 go_upto_region 2 with (go_at_call 18;refine hOw.out.mono ?_;rintro e w1 ⟨vs,rfl,hO1,-,hb1⟩)
 have hO2:bC (w1.alloc (.cells #[] 51)) wz.heap.size B wz.heap.size vs l:=hO1.below ((Hs _ _).alloc (Ht _) _)
 have hb2:Below wz.heap.size wz (w1.alloc (.cells #[] 51)):=hb1.alloc hb1.size _
 have hC2:iC (w1.alloc (.cells #[] 51)) wz.heap.size B (.slice (some ⟨w1.heap.size,0,none⟩) 0 0) []:=⟨[],rfl,⟨rfl,.inr ⟨w1.heap.size,0,#[],rfl,hb1.size,heap_alloc_new w1 _,Ht _,by simp [maxLen],rfl,rfl⟩⟩,fun x hx=>by simp at hx⟩
 replace hO2:=aa hO2
 replace hb2:=aa hb2
 replace hC2:=aa hC2
 clear hO1 hb1
 generalize hn:l.length=n at*
 replace hn:=aa hn
 go_wp2
 go_loopw [10,11,12,13,14,15,16,22] (fun v10 v11 _ _ _ _ _ v22 wr=>∃ (i b og:Nat) (vs:List Value) (out:List (List aA)) (AB:Option Addr) (cB:Nat) (fs:List bn),v22=.int .i64 (i:Int)∧v10=.slice (some ⟨og,0,none⟩) n n∧v11=.slice AB i cB∧i≤cs.length∧Hid (bC wr b B og vs out)∧Hid (wz.heap.size≤b)∧Hid (out.length=n)∧Hid (∀ x∈out,x.length≤M)∧Hid (fs.length=i)∧Hid (iC wr wz.heap.size B (.slice AB i cB) fs)∧Hid (R=cQ p out fs.reverse i (cs.drop i))∧Hid (Below wz.heap.size wz wr)) (fun _ _ _ _ _ _ _ v22 _=>cs.length-(RowKit.intOf v22).toNat)
 case atStart=>exact ⟨0,wz.heap.size,wz.heap.size,vs,l,some ⟨w1.heap.size,0,none⟩,0,[],rfl,rfl,rfl,Hz _,hO2,aa (Ht _),hn,aa hr,aa rfl,hC2,hA0,hb2⟩
 case round=>
  clear hO2 hC2 hb2 hA0 hOw
  obtain ⟨i,b,og,vs,out,AB,cB,fs,rfl,rfl,rfl,hi,hO,hbb,hon,hrr,hfl,hC,hA,hB⟩:=hrel
  by_cases hil:i<cs.length
  ·have hiz:(i:Int)<(cs.length:Int):=by omega
   have dk:decide ((i:Int)<(cs.length:Int))=true:=decide_eq_true hiz
   obtain ⟨cb,co,D1,D2,c1',c2',hAC,hcb,x0,x1,x2,x3,x4,x5,x6,x7,x8,s1,s2⟩:=hSt.out i hil
   have hdrop:cs.drop i=cs[i]::cs.drop (i+1):=by rw [List.getElem_cons_drop]
   have hki:=hk.out _ (HE hil)
   obtain ⟨c,hc⟩:∃ c,c=cs[i]:=⟨_,rfl⟩
   rw [←hc] at x0 x1 x2 x3 x4 x5 x6 x7 x8 s1 s2 hdrop hki
   have hBr:=hbw.out wr hB.out
   have hcbw:cb<w.heap.size:=Hr hcb hBw
   replace x0:=(hBr.cell (p:=⟨cb,co+i*9,none⟩) hcbw).trans x0
   replace x1:=(hBr.cell (p:=⟨cb,co+i*9+1,none⟩) hcbw).trans x1
   replace x2:=(hBr.cell (p:=⟨cb,co+i*9+2,none⟩) hcbw).trans x2
   replace x3:=(hBr.cell (p:=⟨cb,co+i*9+3,none⟩) hcbw).trans x3
   replace x4:=(hBr.cell (p:=⟨cb,co+i*9+4,none⟩) hcbw).trans x4
   replace x5:=(hBr.cell (p:=⟨cb,co+i*9+5,none⟩) hcbw).trans x5
   replace x6:=(hBr.cell (p:=⟨cb,co+i*9+6,none⟩) hcbw).trans x6
   replace x7:=(hBr.cell (p:=⟨cb,co+i*9+7,none⟩) hcbw).trans x7
   replace x8:=(hBr.cell (p:=⟨cb,co+i*9+8,none⟩) hcbw).trans x8
   have hcbr:cb<wr.heap.size:=Hr hcbw hBr.size
   obtain ⟨wx,hwx,hsx,hbx,hcx,-⟩:=af wr #[.int .u8 c.kind,.int .i64 c.sw,.int .i64 c.pos,.int .i64 c.e.tab,.slice D1 c.e.pats.length c1',.int .i64 c.e.len,.int .i64 c.e.prio,.int .i64 c.e.run.act,.slice D2 c.e.run.args.length c2'] 51
   have lx:wr.heap.size<wx.heap.size:=by omega
   obtain ⟨z0,z1,z2,z3,z4,z5,z6,z7,z8⟩:=bW hcx
   have hBx:Below wz.heap.size wz wx:=hB.out.trans (hbx.mono hB.out.size)
   have hBwx:=hbw.out wx hBx
   obtain ⟨y0,y1,y2,y3,y4,y5,y6,y7,y8,y9,y10,y11⟩:=hYW.out wx hBx
   have ly:w.heap.size<wx.heap.size:=Hr lz hBx.size
   have hOx:=hO.out.below hbx
   have hCx:=hC.out.below hbx (by have:=hB.out.size;omega)
   have hcall:=Dh A1 A2 A3 A4 A5 A6 A7 A8 A9 A10 A11 A12 p c1 c2 c3 c4 c5 c6 c7 c8 c9 c10 c11 c12 c (some ⟨og,0,none⟩) D1 D2 n c1' c2' B out wx (Hw hBw hBwx.size) (hP.out wx hBwx) hOx.rowsX (by have:=hon.out;omega) (fun x hx=>Hw (hrr.out x hx) hM2) (s1.keep ay fun a ha=>hBwx.cell (Hr ha hBw)) (s2.keep aq fun a ha=>hBwx.cell (Hr ha hBw)) hki
   rw [hon.out] at hcall
   unfold eV at hcall
   have hnext:∀ r,ke p out c=.ok r→r.1.length=n∧∀ x∈r.1,x.length≤M:=fun r hr=>by
    have:=Bx hr hM hrr.out
    rw [hon.out] at this
    exact this
   have hA2:R=match ke p out c with
     | .error e=>.error (i,e)
     | .ok r=>cQ p r.1 (r.2::fs.reverse) (i+1) (cs.drop (i+1)):=by rw [hA.out,hdrop,cQ];rfl
   have hbx0:=aa hbx
   have hsx0:=aa hsx
   replace hOx:=aa hOx
   replace hCx:=aa hCx
   clear hbx hcx hc hdrop s1 s2 hSt hO hC hA hBr hsx
   subst hAC
   cases hap:ke p out c with
   |error er=>
    rw [hap] at hcall hA2
    have her:(er==0)=false:=by
     unfold ke at hap
     split at hap
     ·cases hap;decide
     ·split at hap
      ·cases hap;decide
      ·split at hap
       ·cases hap;decide
       ·cases hap
    simp only at hA2
    subst hA2
    unfold uk at hcall
    replace hcall:=aa hcall
    clear hap hnext
    generalize c.e.pats.length=pl at*
    generalize c.e.run.args.length=rl at*
    go_wp2_with (go_at_call 11;refine hcall.out.mono ?_;rintro e w5 ⟨rfl,hb5⟩)
    refine bodyPost_ret (v:=.tuple #[.slice none 0 0,.slice none 0 0,.int .i64 (i:Int),.int .i64 er]) (by simp [results,results7,go_sem]) rfl ?_
    refine ⟨rfl,hbw.out _ ((hBx.trans (hb5.mono hBx.size)).trans ?_)⟩
    repeat (first|(with_reducible exact Hs _ _)|(with_reducible refine Below.alloc ?_ (by have:=hBx.size;have:=hb5.size;simp<;>omega) _))
   |ok r=>
    rw [hap] at hcall hA2
    obtain ⟨hn1,hn2⟩:=hnext r hap
    obtain ⟨L,bk⟩:=r
    unfold uk Bb eV at hcall
    simp only at hcall hA2 hn1 hn2
    replace hcall:=aa hcall
    replace hA2:=aa hA2
    replace hn1:=aa hn1
    replace hn2:=aa hn2
    clear hap hnext
    generalize c.e.pats.length=pl at*
    generalize c.e.run.args.length=rl at*
    go_upto_region 8 with (go_at_call 11;refine hcall.out.mono ?_;rintro e w5 ⟨b5,og5,vs5,E1,e1,E2,e2,rfl,hb55,hO5,t1,t2,hb5⟩;obtain ⟨w6,hw6,hs6,hb6,hc6,-⟩:=af w5 #[.int .u8 bk.kind,.int .i64 bk.sw,.int .i64 bk.pos,.int .i64 bk.e.tab,.slice E1 bk.e.pats.length e1,.int .i64 bk.e.len,.int .i64 bk.e.prio,.int .i64 bk.e.run.act,.slice E2 bk.e.run.args.length e2] 51)
    obtain ⟨q0,q1,q2,q3,q4,q5,q6,q7,q8⟩:=bW hc6
    have l6:w5.heap.size<w6.heap.size:=by omega
    have hO6:=hO5.below hb6
    have hBz5:Below wz.heap.size wz w5:=hBx.trans (hb5.mono hBx.size)
    have hBz6:Below wz.heap.size wz w6:=hBz5.trans (hb6.mono hBz5.size)
    have hBwz:B≤wz.heap.size:=Hw hBw hbzz
    have hC6:iC w6 wz.heap.size B (.slice AB i cB) fs:=(hCx.out.below hb5 (Hw hBwz hBx.size)).below hb6 (Hw hBwz hBz5.size)
    have hI6:Ce w6 B (bk,Value.slice E1 bk.e.pats.length e1,Value.slice E2 bk.e.run.args.length e2):=⟨⟨E1,e1,rfl,t1.keep ay fun a ha=>hb6.cell (Hr ha (Hw hBwz hBz5.size))⟩,E2,e2,rfl,t2.keep aq fun a ha=>hb6.cell (Hr ha (Hw hBwz hBz5.size))⟩
    obtain ⟨v7,w7,hrun,hC7,hb7,hf7⟩:=tZ _ hI6 hC6 hBz6.size hBwz (by have:=hfl.out;omega)
    have hrun2:(eh #[35,35] 35 #[.slice AB i cB,.slice (some ⟨w6.heap.size,0,none⟩) 1 1]).run prog (w6.alloc (.cells #[.int .u8 bk.kind,.int .i64 bk.sw,.int .i64 bk.pos,.int .i64 bk.e.tab,.slice E1 bk.e.pats.length e1,.int .i64 bk.e.len,.int .i64 bk.e.prio,.int .i64 bk.e.run.act,.slice E2 bk.e.run.args.length e2] 51))=.ok v7 w7:=hrun
    have hO7:=aa (bC.aside (g:=(Value.slice AB i cB).ownBlock) hO6 (fun a ha=>hb7.cell (Hr ha hBwz)) hf7 fun b e=>hC6.typ b e)
    have hl7:(fs++ [bk]).length=i+1:=by simp [hfl.out]
    obtain ⟨A7,c7',rfl⟩:=hC7.form
    rw [hl7] at hC7 hrun2
    have hC8:=aa hC7
    have hB8:=aa (hBz6.trans (hb7.mono (Ht _)))
    have hl8:=aa hl7
    have hA8:Hid (R=cQ p L (fs++ [bk]).reverse (i+1) (cs.drop (i+1))):=aa (by rw [List.reverse_append];exact hA2.out)
    have hb8:Hid (wz.heap.size≤b5):=aa (Hw hBx.size hb55)
    replace hs6:=aa hs6
    clear hrun hO6 hC6 hI6 hC7 hf7 hb7 hl7 hc6 hO5 t1 t2 hBz5 hBz6 hA2 hCx hOx hcall
    go_wp2
    go_roundw
    ·exact ⟨i+1,b5,og5,vs5,L,A7,c7',fs++ [bk],by go_num,rfl,rfl,hil,hO7,hb8,hn1,hn2,hl8,hC8,hA8,hB8⟩
    ·simp [RowKit.intOf];omega
  ·obtain rfl:i=cs.length:=by omega
   have dk:decide ((cs.length:Int)<(cs.length:Int))=false:=decide_eq_false (by omega)
   have hBwz:B≤wz.heap.size:=Hw hBw hbzz
   have hA2:R=.ok (out,fs.reverse):=by
    rw [hA.out,Im (Ht _)]
    rfl
   subst hA2
   have hrev:=aa (Fx _ fs wr hC.out (by have:=hfl.out;omega) hBwz)
   have hfin:=aa (fun (w':World) (hC9:iC w' wz.heap.size B (.slice AB cs.length cB) fs.reverse) (hf:∀ k,(Value.slice AB cs.length cB).ownBlock≠some k→w'.heap[k]? =wr.heap[k]?) (hb9:Below wz.heap.size wr w')=>(⟨b,og,vs,.slice AB cs.length cB,rfl,Hw hbzz hbb.out,bC.aside (g:=(Value.slice AB cs.length cB).ownBlock) hO.out (fun a ha=>hb9.cell (Hr ha hBwz)) (fun k _ hk=>hf k hk) fun b e=>hC.out.typ b e,iC.low hC9 hbzz,hbw.out _ (hB.out.trans hb9)⟩:jH B n cs.length w (.ok (out,fs.reverse)) (.returned (.tuple #[.slice (some ⟨og,0,none⟩) n n,.slice AB cs.length cB,.int .i64 (cs.length:Int),.int .i64 0])) w'))
   clear hSt hO hC hA hB
   go_wp2_with (go_at_call 19;refine hrev.out.mono ?_;rintro e w5 ⟨rfl,hC9,hf9,hb9⟩)
   refine bodyPost_ret (v:=.tuple #[.slice (some ⟨og,0,none⟩) n n,.slice AB cs.length cB,.int .i64 (cs.length:Int),.int .i64 0]) (by simp [results,results7,go_sem]) rfl ?_
   exact hfin.out _ hC9 hf9 hb9
end
end Go.Proofs.YtijcdfdbkffiaaaGreatDoor

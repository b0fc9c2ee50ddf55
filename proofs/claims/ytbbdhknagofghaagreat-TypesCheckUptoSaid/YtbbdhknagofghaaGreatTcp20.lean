import Derived.Test.YtbbdhknagofghaaGreatTcp19
set_option linter.all false
set_option maxHeartbeats 8000000
set_option maxRecDepth 100000
open Go.Proofs.Tryz
namespace Go.Proofs.YtbbdhknagofghaaGreat
open _root_.Nat renaming lt_of_lt_of_le→Bg, le_trans→Bj
open _root_.Go.Calls renaming regrown_of→Bh
open _root_.Go.RowKit.Below renaming refl→Bi
open _root_.List renaming getElem?_eq_getElem→Bk, getElem_mem→Bv, all_eq_true→Bw, take_zero→Bz, cons_append→BC, take_succ_cons→BE, mem_cons→BI, take_succ_eq_append_getElem→BO, drop_succ_cons→BY, isEmpty_eq_false_iff→B9
open _root_.Go.Sort renaming grow→Bl
open _root_.Bool renaming and_eq_true→Bn
open _root_.Int renaming toNat_natCast→BM
open Go.RowKit
theorem xG (A1 A2 A3 A4 A5 A6 A7:Option Addr) (p:Pg) (c1 c2 c3 c4 c5 c6 c7:Nat) (act:Int) (B:Nat) (hm:bg p=true) (head name:ByteArray) (e:Ex) (thn els:List St) (n:Nat) (h1:1≤n) (h2:n≤128) (k:Nat) (hk:k<p.metas.length) (hkz:ct p name=(k:Int)) (hn:p.metas[k].2=(n:Int)) (hh:head=aB) (he:aT e=true) (cs:List Value) (w:World) (hB:B≤w.heap.size) (hP:bu w B A1 A2 A3 A4 A5 A6 A7 p) (h:dR w B cs (.mk 1 head name e thn els)):
  Calls prog 37 #[.agg (dw p A1 A2 A3 A4 A5 A6 A7 c1 c2 c3 c4 c5 c6 c7 act),.agg cs.toArray] w fun z7 w'=>z7=fq (dE p act e n)∧Below w.heap.size w w':=by
 unfold dw
 obtain ⟨es,A,cap,A',cap',rfl,-,-,-,hE,hT,hL⟩:=RS.inv h
 have l1:=hT.len
 have l2:=hL.len
 have hG0:=aa (fun (W:World) (hb:Below w.heap.size w W)=>oH A1 A2 A3 A4 A5 A6 A7 p c1 c2 c3 c4 c5 c6 c7 act B hm e he n h1 h2 es W (Bj hB hb.size) (hP.below (hb.mono hB)) (ai.keep hE fun q hq=>(hb.mono hB).cell hq))
 generalize dE p act e n=r at hG0 ⊢
 obtain ⟨op,lit,ehead,ename,hi,lo,args⟩:=e
 obtain ⟨Ae,ecap,rfl,-,-,-,-,-,-,hs⟩:=RE.inv hE
 have l3:=hs.len
 clear hs h hT hL he hE
 show Calls _ _ #[.agg #[.slice A1 p.headers.length c1,.slice A2 p.metas.length c2,.slice A3 p.states.length c3,.slice A4 p.actions.length c4,.slice A5 p.tables.length c5,.slice A6 p.control.length c6,.slice A7 p.emit.length c7,.int .i64 act],.agg #[.int .u8 1,.string head,.string name,.int .u8 op,.int .i64 lit.1,.int .u64 lit.2.1,.int .u64 lit.2.2,.string ehead,.string ename,.int .i64 hi,.int .i64 lo,.slice Ae args.length ecap,.slice A thn.length cap,.slice A' els.length cap']] _ _
 obtain ⟨wv,hwv,hsv,wz,hwz,hsz,hw,cv,cz,hfr,hl1,hl2⟩:=kM w (dw p A1 A2 A3 A4 A5 A6 A7 c1 c2 c3 c4 c5 c6 c7 act) 88 (nA 1 head name op lit ehead ename hi lo Ae args.length ecap A thn.length cap A' els.length cap') 47
 obtain ⟨v0,v1,v2,v3,v4,v5,v6,v7⟩:=fs cv
 obtain ⟨z0,z1,z2,z3,z4,z5,z6,z7,z8,z9,z10,z11,z12,z13⟩:=dm cz
 clear cv cz
 have hG:Hid (∀ W,Below wz.heap.size wz W→Calls prog 96 #[.agg (dw p A1 A2 A3 A4 A5 A6 A7 c1 c2 c3 c4 c5 c6 c7 act),.agg (aO op lit ehead ename hi lo Ae args.length ecap),.int .i64 (n:Int)] W fun e w'=>e=fq r∧Below W.heap.size W w'):=aa (fun W hb=>hG0.out W (hw.out.trans (hb.mono (by omega))))
 clear hG0
 have hBz:B≤wz.heap.size:=by omega
 have hPz:=aa (hP.below (hw.out.mono hB))
 clear hP
 have q1:(head.toList== [])=true:=by rw [ak.1 hh];rfl
 have q2:head.toList.isEmpty=true:=by rw [ak.1 hh];rfl
 have q3:head.toList= []:=ak.1 hh
 have hFl:∀ d os,Hid (Calls prog 85 #[.agg (aq p A1 A2 A3 A4 A5 A6 A7 c1 c2 c3 c4 c5 c6 c7),.string name] (Bl (redrawn wz d) os) _):=fun d os=>aa (gL _ A1 A2 A3 A4 A5 A6 A7 p c1 c2 c3 c4 c5 c6 c7 name (Bj hBz (cH wz d os)) (hPz.out.below ((below_regrown wz d os).mono hBz)))
 rw [hkz] at hFl
 obtain ⟨b,o,ecs,hA,hb,hel,hcell,hf,-,-⟩:=hPz.out.metas.2 k _ (Bk hk)
 subst hA
 subst hf
 have lm:=hPz.out.metas.len
 have x1:wz.cell? ⟨b,o+k*2+1,none⟩=some (.int .i64 n):=by rw [←hn];exact hcell 1 _ rfl
 have hbw:b<wz.heap.size:=by omega
 have hkz':(k:Int)<(p.metas.length:Int):=by omega
 clear hcell hPz hn hkz hh hel
 have hb0:Below wz.heap.size wz wz:=Bi _ _
 have hg:=ax hb0 hb0.size
 go_enter func37,ntmps37
 go_wp2_with fail
 refine aS 14 (by kernel_rfl) (by kernel_rfl) ?_
 simp only [BE,Bz,BY,List.drop_zero]
 repeat (any_goals (first|go_big_quiet_step (first|(go_at_call 85;with_reducible exact Bh (hFl _ _).out))|quiet_step (first|(go_at_call 85;with_reducible exact Bh (hFl _ _).out))))
 refine wpQuiet_nil ?_
 intro w2 hw2
 clear hg hFl
 have hG2:=aa (hG.out w2 hw2)
 clear hG
 cases r with
 |error n7=>
  replace hG2:=aa (show Calls prog _ _ w2 fun e w'=>e=ji n7∧Below w2.heap.size w2 w' from hG2.out)
  go_wp2_with (go_at_call 96;refine hG2.out.mono ?_;rintro e w3 ⟨rfl,hb3⟩)
  exact ⟨rfl,rfl,hw.out.trans ((hw2.trans (hb3.mono hw2.size)).mono (by omega))⟩
 |ok u=>
  replace hG2:=aa (show Calls prog _ _ w2 fun e w'=>e=.returned (.tuple #[])∧Below w2.heap.size w2 w' from hG2.out)
  go_wp2_with (go_at_call 96;refine hG2.out.mono ?_;rintro e w3 ⟨rfl,hb3⟩)
  first
   |(go_end0;exact ⟨rfl,hw.out.trans ((hw2.trans (hb3.mono hw2.size)).mono (by omega))⟩)
   |((try simp only [Exit.inBlock,Exit.then]);refine bodyPost_ret (results_none rfl _ _ _) rfl ?_;exact ⟨rfl,hw.out.trans ((hw2.trans (hb3.mono hw2.size)).mono (by omega))⟩)
theorem vt (A1 A2 A3 A4 A5 A6 A7:Option Addr) (p:Pg) (c1 c2 c3 c4 c5 c6 c7:Nat) (act:Int) (B:Nat) (hm:bg p=true) (head name:ByteArray) (e:Ex) (thn els:List St) (n:Nat) (h1:1≤n) (h2:n≤128) (k:Nat) (hk:k<p.headers.length) (hkz:ap p head=(k:Int)) (j:Nat) (hj:j<p.headers[k].fields.length) (hjz:aJ p (k:Int) name=(j:Int)) (hn:p.headers[k].fields[j].2=(n:Int)) (hh:¬head=aB) (he:aT e=true) (cs:List Value) (w:World) (hB:B≤w.heap.size) (hP:bu w B A1 A2 A3 A4 A5 A6 A7 p) (h:dR w B cs (.mk 1 head name e thn els)):
  Calls prog 37 #[.agg (dw p A1 A2 A3 A4 A5 A6 A7 c1 c2 c3 c4 c5 c6 c7 act),.agg cs.toArray] w fun z7 w'=>z7=fq (dE p act e n)∧Below w.heap.size w w':=by
 unfold dw
 obtain ⟨es,A,cap,A',cap',rfl,-,-,-,hE,hT,hL⟩:=RS.inv h
 have l1:=hT.len
 have l2:=hL.len
 have hG0:=aa (fun (W:World) (hb:Below w.heap.size w W)=>oH A1 A2 A3 A4 A5 A6 A7 p c1 c2 c3 c4 c5 c6 c7 act B hm e he n h1 h2 es W (Bj hB hb.size) (hP.below (hb.mono hB)) (ai.keep hE fun q hq=>(hb.mono hB).cell hq))
 generalize dE p act e n=r at hG0 ⊢
 obtain ⟨op,lit,ehead,ename,hi,lo,args⟩:=e
 obtain ⟨Ae,ecap,rfl,-,-,-,-,-,-,hs⟩:=RE.inv hE
 have l3:=hs.len
 clear hs h hT hL he hE
 show Calls _ _ #[.agg #[.slice A1 p.headers.length c1,.slice A2 p.metas.length c2,.slice A3 p.states.length c3,.slice A4 p.actions.length c4,.slice A5 p.tables.length c5,.slice A6 p.control.length c6,.slice A7 p.emit.length c7,.int .i64 act],.agg #[.int .u8 1,.string head,.string name,.int .u8 op,.int .i64 lit.1,.int .u64 lit.2.1,.int .u64 lit.2.2,.string ehead,.string ename,.int .i64 hi,.int .i64 lo,.slice Ae args.length ecap,.slice A thn.length cap,.slice A' els.length cap']] _ _
 obtain ⟨wv,hwv,hsv,wz,hwz,hsz,hw,cv,cz,hfr,hl1,hl2⟩:=kM w (dw p A1 A2 A3 A4 A5 A6 A7 c1 c2 c3 c4 c5 c6 c7 act) 88 (nA 1 head name op lit ehead ename hi lo Ae args.length ecap A thn.length cap A' els.length cap') 47
 obtain ⟨v0,v1,v2,v3,v4,v5,v6,v7⟩:=fs cv
 obtain ⟨z0,z1,z2,z3,z4,z5,z6,z7,z8,z9,z10,z11,z12,z13⟩:=dm cz
 clear cv cz
 have hG:Hid (∀ W,Below wz.heap.size wz W→Calls prog 96 #[.agg (dw p A1 A2 A3 A4 A5 A6 A7 c1 c2 c3 c4 c5 c6 c7 act),.agg (aO op lit ehead ename hi lo Ae args.length ecap),.int .i64 (n:Int)] W fun e w'=>e=fq r∧Below W.heap.size W w'):=aa (fun W hb=>hG0.out W (hw.out.trans (hb.mono (by omega))))
 clear hG0
 have hBz:B≤wz.heap.size:=by omega
 have hPz:=aa (hP.below (hw.out.mono hB))
 clear hP
 have q1:(head.toList== [])=false:=by rw [beq_eq_false_iff_ne];exact fun h=>hh (ak.2 h)
 have q2:head.toList.isEmpty=false:=by rw [B9];exact fun h=>hh (ak.2 h)
 have q3:¬head.toList= []:=fun h=>hh (ak.2 h)
 have hH:=aa (cK wz A1 A2 A3 A4 A5 A6 A7 p c1 c2 c3 c4 c5 c6 c7 head hBz hPz.out)
 have hFl:∀ W,Below wz.heap.size wz W→∀ d os,Hid (Calls prog 84 #[.agg (aq p A1 A2 A3 A4 A5 A6 A7 c1 c2 c3 c4 c5 c6 c7),.int .i64 (k:Int),.string name] (Bl (redrawn W d) os) _):=fun W hb d os=>aa (fG _ A1 A2 A3 A4 A5 A6 A7 p c1 c2 c3 c4 c5 c6 c7 (k:Int) name (Bj hBz (Bj hb.size (cH W d os))) (hPz.out.below ((aA hb hb.size d os).mono hBz)))
 rw [hjz] at hFl
 rw [hkz] at hH
 obtain ⟨b,o,ecs,hA,hb,hel,hcell,A2',c2',hf,hnm,hS⟩:=hPz.out.headers.2 k _ (Bk hk)
 subst hA
 subst hf
 have x0:wz.cell? ⟨b,o+k*2,none⟩=some (.string p.headers[k].name):=by simpa using hcell 0 _ rfl
 have x1:wz.cell? ⟨b,o+k*2+1,none⟩=some (.slice A2' p.headers[k].fields.length c2'):=hcell 1 _ rfl
 obtain ⟨b2,o2,ecs2,hA2,hb2',hel2,hcell2,hf2,-,-⟩:=hS.2 j _ (Bk hj)
 subst hA2
 subst hf2
 have y1:wz.cell? ⟨b2,o2+j*2+1,none⟩=some (.int .i64 n):=by rw [←hn];exact hcell2 1 _ rfl
 have lm:=hPz.out.headers.len
 have lf:=hS.len
 have hbw:b<wz.heap.size:=by omega
 have hbw2:b2<wz.heap.size:=by omega
 have hkl:(k:Int)<(p.headers.length:Int):=by omega
 have hjl:(j:Int)<(p.headers[k].fields.length:Int):=by omega
 clear hcell hcell2 hPz hn hkz hjz hh hel hel2 hS
 generalize p.headers[k].fields.length=nf at*
 generalize p.headers[k].name=nh at*
 replace hFl:=aa hFl
 go_enter func37,ntmps37
 go_wp2_with (go_at_call 83;refine hH.out.mono ?_;rintro e w1 ⟨rfl,hb1⟩;have kb1:=ab hb1;have qb1:=Bg hl1 hb1.size;have qb2:=Bg hl2 hb1.size)
 have hF1:=hFl.out w1 hb1
 have hg:=ax hb1 hb1.size
 refine aS 19 (by kernel_rfl) (by kernel_rfl) ?_
 simp only [BE,Bz,BY,List.drop_zero]
 repeat (any_goals (first|go_big_quiet_step (first|(go_at_call 84;with_reducible exact Bh (hF1 _ _).out))|quiet_step (first|(go_at_call 84;with_reducible exact Bh (hF1 _ _).out))))
 refine wpQuiet_nil ?_
 intro w2 hw2
 have hb2:=hb1.trans (hw2.mono hb1.size)
 clear hg hF1 hFl
 have hG2:=aa (hG.out w2 hb2)
 clear hG
 cases r with
 |error n7=>
  replace hG2:=aa (show Calls prog _ _ w2 fun e w'=>e=ji n7∧Below w2.heap.size w2 w' from hG2.out)
  go_wp2_with (go_at_call 96;refine hG2.out.mono ?_;rintro e w3 ⟨rfl,hb3⟩)
  exact ⟨rfl,rfl,hw.out.trans ((hb2.trans (hb3.mono hb2.size)).mono (by omega))⟩
 |ok u=>
  replace hG2:=aa (show Calls prog _ _ w2 fun e w'=>e=.returned (.tuple #[])∧Below w2.heap.size w2 w' from hG2.out)
  go_wp2_with (go_at_call 96;refine hG2.out.mono ?_;rintro e w3 ⟨rfl,hb3⟩)
  first
   |(go_end0;exact ⟨rfl,hw.out.trans ((hb2.trans (hb3.mono hb2.size)).mono (by omega))⟩)
   |((try simp only [Exit.inBlock,Exit.then]);refine bodyPost_ret (results_none rfl _ _ _) rfl ?_;exact ⟨rfl,hw.out.trans ((hb2.trans (hb3.mono hb2.size)).mono (by omega))⟩)
def A8:Rs Ty→Rs Unit
 | .error n=>.error n
 | .ok t=>if t.truth then .ok () else .error 9
def AL (fe:Bool):Rs Ty→Rs Unit
 | .error n=>.error n
 | .ok t=>if t.truth then .error 9 else if t.free then (if fe then .ok () else .error 5) else .ok ()
theorem zZ (A1 A2 A3 A4 A5 A6 A7:Option Addr) (p:Pg) (c1 c2 c3 c4 c5 c6 c7:Nat) (act:Int) (B:Nat) (hm:bg p=true) (head name:ByteArray) (e:Ex) (thn els:List St) (r:Rs Unit) (hrr:A8 (bI p act e)=r) (he:aT e=true) (cs:List Value) (w:World) (hB:B≤w.heap.size) (hP:bu w B A1 A2 A3 A4 A5 A6 A7 p) (h:dR w B cs (.mk 2 head name e thn els)):
  Calls prog 37 #[.agg (dw p A1 A2 A3 A4 A5 A6 A7 c1 c2 c3 c4 c5 c6 c7 act),.agg cs.toArray] w fun z7 w'=>z7=fq (r)∧Below w.heap.size w w':=by
 unfold dw
 obtain ⟨es,A,cap,A',cap',rfl,-,-,-,hE,hT,hL⟩:=RS.inv h
 have l1:=hT.len
 have l2:=hL.len
 have hX0:=aa (fun (W:World) (hb:Below w.heap.size w W)=>ip A1 A2 A3 A4 A5 A6 A7 p c1 c2 c3 c4 c5 c6 c7 act B hm e he es W (Bj hB hb.size) (hP.below (hb.mono hB)) (ai.keep hE fun q hq=>(hb.mono hB).cell hq))
 generalize bI p act e=ra at hX0 hrr
 obtain ⟨op,lit,ehead,ename,hi,lo,args⟩:=e
 obtain ⟨Ae,ecap,rfl,-,-,-,-,-,-,hs⟩:=RE.inv hE
 have l3:=hs.len
 clear hs h hT hL he hE
 show Calls _ _ #[.agg #[.slice A1 p.headers.length c1,.slice A2 p.metas.length c2,.slice A3 p.states.length c3,.slice A4 p.actions.length c4,.slice A5 p.tables.length c5,.slice A6 p.control.length c6,.slice A7 p.emit.length c7,.int .i64 act],.agg #[.int .u8 2,.string head,.string name,.int .u8 op,.int .i64 lit.1,.int .u64 lit.2.1,.int .u64 lit.2.2,.string ehead,.string ename,.int .i64 hi,.int .i64 lo,.slice Ae args.length ecap,.slice A thn.length cap,.slice A' els.length cap']] _ _
 obtain ⟨wv,hwv,hsv,wz,hwz,hsz,hw,cv,cz,hfr,hl1,hl2⟩:=kM w (dw p A1 A2 A3 A4 A5 A6 A7 c1 c2 c3 c4 c5 c6 c7 act) 88 (nA 2 head name op lit ehead ename hi lo Ae args.length ecap A thn.length cap A' els.length cap') 47
 obtain ⟨v0,v1,v2,v3,v4,v5,v6,v7⟩:=fs cv
 obtain ⟨z0,z1,z2,z3,z4,z5,z6,z7,z8,z9,z10,z11,z12,z13⟩:=dm cz
 clear cv cz
 have hX:=aa (show Calls prog 29 #[.agg (dw p A1 A2 A3 A4 A5 A6 A7 c1 c2 c3 c4 c5 c6 c7 act),.agg (aO op lit ehead ename hi lo Ae args.length ecap)] wz _ from hX0.out wz hw.out)
 clear hX0
 have hBz:B≤wz.heap.size:=by omega
 have hPz:=aa (hP.below (hw.out.mono hB))
 clear hP
 cases ra with
 |error n7=>
  replace hX:=aa (show Calls prog _ _ wz fun e w'=>e=ji n7∧Below wz.heap.size wz w' from hX.out)
  go_enter func37,ntmps37
  go_wp2_with (go_at_call 29;refine hX.out.mono ?_;rintro e w3 ⟨rfl,hb3⟩)
  exact ⟨rfl,by rw [←hrr];rfl,hw.out.trans (hb3.mono (by omega))⟩
 |ok t=>
  obtain ⟨tw,tr,tf⟩:=t
  replace hX:=aa (show Calls prog _ _ wz fun e w'=>e=.returned (.agg #[.int .i64 tw,.bool tr,.bool tf])∧Below wz.heap.size wz w' from hX.out)
  replace hrr:=aa hrr
  have hfs:∀ W:World,(Instr.field 75 (.agg #[.int .i64 tw,.bool tr,.bool tf]) 1).run prog W=.ok (.bool tr) W:=fun _=>by kernel_rfl
  clear hPz
  cases tr with
  |true=>
   go_enter func37,ntmps37
   go_wp2_with (first|(go_at_call 27;with_reducible refine (aP _ _).mono ?_;rintro e w' ⟨rfl,rfl⟩)|(go_at_call 29;refine hX.out.mono ?_;rintro e w3 ⟨rfl,hb3⟩;have kb3:=ab hb3;have q3:=Bg hl1 hb3.size;have q4:=Bg hl2 hb3.size))
   (try simp only [Exit.inBlock,Exit.then])
   refine bodyPost_end (results_none rfl _ _ _) rfl ?_
   exact ⟨by rw [←hrr.out];rfl,hw.out.trans ((hb3).mono (by omega))⟩
  |false=>
   go_enter func37,ntmps37
   go_wp2_with (first|(go_at_call 27;with_reducible refine (bJ _ _).mono ?_;rintro e w' ⟨rfl,rfl⟩)|(go_at_call 29;refine hX.out.mono ?_;rintro e w3 ⟨rfl,hb3⟩;have kb3:=ab hb3;have q3:=Bg hl1 hb3.size;have q4:=Bg hl2 hb3.size))
   exact ⟨rfl,by rw [←hrr.out];rfl,hw.out.trans ((hb3).mono (by omega))⟩
theorem zj (A1 A2 A3 A4 A5 A6 A7:Option Addr) (p:Pg) (c1 c2 c3 c4 c5 c6 c7:Nat) (act:Int) (B:Nat) (hm:bg p=true) (head name:ByteArray) (e:Ex) (thn els:List St) (r:Rs Unit) (hrr:AL (bB ((9:Nat):Int) e) (bI p act e)=r) (he:aT e=true) (cs:List Value) (w:World) (hB:B≤w.heap.size) (hP:bu w B A1 A2 A3 A4 A5 A6 A7 p) (h:dR w B cs (.mk 5 head name e thn els)):
  Calls prog 37 #[.agg (dw p A1 A2 A3 A4 A5 A6 A7 c1 c2 c3 c4 c5 c6 c7 act),.agg cs.toArray] w fun z7 w'=>z7=fq (r)∧Below w.heap.size w w':=by
 unfold dw
 obtain ⟨es,A,cap,A',cap',rfl,-,-,-,hE,hT,hL⟩:=RS.inv h
 have l1:=hT.len
 have l2:=hL.len
 have hX0:=aa (fun (W:World) (hb:Below w.heap.size w W)=>ip A1 A2 A3 A4 A5 A6 A7 p c1 c2 c3 c4 c5 c6 c7 act B hm e he es W (Bj hB hb.size) (hP.below (hb.mono hB)) (ai.keep hE fun q hq=>(hb.mono hB).cell hq))
 have hF0:=aa (fun (W:World) (hb:Below w.heap.size w W)=>im 9 (by omega) (by omega) e es W B (Bj hB hb.size) (ai.keep hE fun q hq=>(hb.mono hB).cell hq))
 generalize bB ((9:Nat):Int) e=fe at hF0 hrr
 generalize bI p act e=ra at hX0 hrr
 obtain ⟨op,lit,ehead,ename,hi,lo,args⟩:=e
 obtain ⟨Ae,ecap,rfl,-,-,-,-,-,-,hs⟩:=RE.inv hE
 have l3:=hs.len
 clear hs h hT hL he hE
 show Calls _ _ #[.agg #[.slice A1 p.headers.length c1,.slice A2 p.metas.length c2,.slice A3 p.states.length c3,.slice A4 p.actions.length c4,.slice A5 p.tables.length c5,.slice A6 p.control.length c6,.slice A7 p.emit.length c7,.int .i64 act],.agg #[.int .u8 5,.string head,.string name,.int .u8 op,.int .i64 lit.1,.int .u64 lit.2.1,.int .u64 lit.2.2,.string ehead,.string ename,.int .i64 hi,.int .i64 lo,.slice Ae args.length ecap,.slice A thn.length cap,.slice A' els.length cap']] _ _
 obtain ⟨wv,hwv,hsv,wz,hwz,hsz,hw,cv,cz,hfr,hl1,hl2⟩:=kM w (dw p A1 A2 A3 A4 A5 A6 A7 c1 c2 c3 c4 c5 c6 c7 act) 88 (nA 5 head name op lit ehead ename hi lo Ae args.length ecap A thn.length cap A' els.length cap') 47
 obtain ⟨v0,v1,v2,v3,v4,v5,v6,v7⟩:=fs cv
 obtain ⟨z0,z1,z2,z3,z4,z5,z6,z7,z8,z9,z10,z11,z12,z13⟩:=dm cz
 clear cv cz
 have hX:=aa (show Calls prog 29 #[.agg (dw p A1 A2 A3 A4 A5 A6 A7 c1 c2 c3 c4 c5 c6 c7 act),.agg (aO op lit ehead ename hi lo Ae args.length ecap)] wz _ from hX0.out wz hw.out)
 clear hX0
 have hF:Hid (∀ W,Below w.heap.size w W→Calls prog 97 #[.agg (aO op lit ehead ename hi lo Ae args.length ecap),.int .i64 9] W _):=hF0
 clear hF0
 have hBz:B≤wz.heap.size:=by omega
 have hPz:=aa (hP.below (hw.out.mono hB))
 clear hP
 cases ra with
 |error n7=>
  replace hX:=aa (show Calls prog _ _ wz fun e w'=>e=ji n7∧Below wz.heap.size wz w' from hX.out)
  go_enter func37,ntmps37
  go_wp2_with (go_at_call 29;refine hX.out.mono ?_;rintro e w3 ⟨rfl,hb3⟩)
  exact ⟨rfl,by rw [←hrr];rfl,hw.out.trans (hb3.mono (by omega))⟩
 |ok t=>
  obtain ⟨tw,tr,tf⟩:=t
  replace hX:=aa (show Calls prog _ _ wz fun e w'=>e=.returned (.agg #[.int .i64 tw,.bool tr,.bool tf])∧Below wz.heap.size wz w' from hX.out)
  replace hrr:=aa hrr
  clear hPz
  cases tr with
  |true=>
   go_enter func37,ntmps37
   go_wp2_with (first|(go_at_call 27;with_reducible refine (bJ _ _).mono ?_;rintro e w' ⟨rfl,rfl⟩)|(go_at_call 29;refine hX.out.mono ?_;rintro e w3 ⟨rfl,hb3⟩;have kb3:=ab hb3;have q3:=Bg hl1 hb3.size;have q4:=Bg hl2 hb3.size))
   exact ⟨rfl,by rw [←hrr.out];rfl,hw.out.trans ((hb3.alloc hb3.size _).mono (by omega))⟩
  |false=>
   cases tf with
   |true=>
    cases fe with
    |true=>
     go_enter func37,ntmps37
     go_wp2_with (first|(go_at_call 27;with_reducible refine (aP _ _).mono ?_;rintro e w' ⟨rfl,rfl⟩)|(go_at_call 97;refine (hF.out _ (hw.out.trans ((hb3.alloc hb3.size _).mono (by omega)))).mono ?_;rintro e w6 ⟨rfl,hb6⟩)|(go_at_call 29;refine hX.out.mono ?_;rintro e w3 ⟨rfl,hb3⟩;have kb3:=ab hb3;have q3:=Bg hl1 hb3.size;have q4:=Bg hl2 hb3.size))
     (try simp only [Exit.inBlock,Exit.then])
     refine bodyPost_end (results_none rfl _ _ _) rfl ?_
     exact ⟨by rw [←hrr.out];rfl,hw.out.trans (((hb3.alloc hb3.size _).trans (hb6.mono (hb3.alloc hb3.size _).size)).mono (by omega))⟩
    |false=>
     go_enter func37,ntmps37
     go_wp2_with (first|(go_at_call 27;first|(with_reducible refine (aP _ _).mono ?_;rintro e w' ⟨rfl,rfl⟩)|(with_reducible refine (bJ _ _).mono ?_;rintro e w' ⟨rfl,rfl⟩))|(go_at_call 97;refine (hF.out _ (hw.out.trans ((hb3.alloc hb3.size _).mono (by omega)))).mono ?_;rintro e w6 ⟨rfl,hb6⟩)|(go_at_call 29;refine hX.out.mono ?_;rintro e w3 ⟨rfl,hb3⟩;have kb3:=ab hb3;have q3:=Bg hl1 hb3.size;have q4:=Bg hl2 hb3.size))
     exact ⟨rfl,by rw [←hrr.out];rfl,hw.out.trans (((hb3.alloc hb3.size _).trans (hb6.mono (hb3.alloc hb3.size _).size)).mono (by omega))⟩
   |false=>
    go_enter func37,ntmps37
    go_wp2_with (first|(go_at_call 27;with_reducible refine (aP _ _).mono ?_;rintro e w' ⟨rfl,rfl⟩)|(go_at_call 29;refine hX.out.mono ?_;rintro e w3 ⟨rfl,hb3⟩;have kb3:=ab hb3;have q3:=Bg hl1 hb3.size;have q4:=Bg hl2 hb3.size))
    (try simp only [Exit.inBlock,Exit.then])
    refine bodyPost_end (results_none rfl _ _ _) rfl ?_
    exact ⟨by rw [←hrr.out];rfl,hw.out.trans ((hb3.alloc hb3.size _).mono (by omega))⟩
theorem vu (A1 A2 A3 A4 A5 A6 A7:Option Addr) (p:Pg) (c1 c2 c3 c4 c5 c6 c7:Nat) (act:Int) (B:Nat) (hm:bg p=true) (kind:Int) (head name:ByteArray) (e:Ex) (thn els:List St) (n1:¬kind=1) (n2:¬kind=2) (n5:¬kind=5) (cs:List Value) (w:World) (hB:B≤w.heap.size) (hP:bu w B A1 A2 A3 A4 A5 A6 A7 p) (h:dR w B cs (.mk kind head name e thn els)):
  Calls prog 37 #[.agg (dw p A1 A2 A3 A4 A5 A6 A7 c1 c2 c3 c4 c5 c6 c7 act),.agg cs.toArray] w fun z7 w'=>z7=fq (.ok ())∧Below w.heap.size w w':=by
 unfold dw
 obtain ⟨es,A,cap,A',cap',rfl,-,-,-,hE,hT,hL⟩:=RS.inv h
 have l1:=hT.len
 have l2:=hL.len
 obtain ⟨op,lit,ehead,ename,hi,lo,args⟩:=e
 obtain ⟨Ae,ecap,rfl,-,-,-,-,-,-,hs⟩:=RE.inv hE
 have l3:=hs.len
 clear hs h hT hL hE
 show Calls _ _ #[.agg #[.slice A1 p.headers.length c1,.slice A2 p.metas.length c2,.slice A3 p.states.length c3,.slice A4 p.actions.length c4,.slice A5 p.tables.length c5,.slice A6 p.control.length c6,.slice A7 p.emit.length c7,.int .i64 act],.agg #[.int .u8 kind,.string head,.string name,.int .u8 op,.int .i64 lit.1,.int .u64 lit.2.1,.int .u64 lit.2.2,.string ehead,.string ename,.int .i64 hi,.int .i64 lo,.slice Ae args.length ecap,.slice A thn.length cap,.slice A' els.length cap']] _ _
 obtain ⟨wv,hwv,hsv,wz,hwz,hsz,hw,cv,cz,hfr,hl1,hl2⟩:=kM w (dw p A1 A2 A3 A4 A5 A6 A7 c1 c2 c3 c4 c5 c6 c7 act) 88 (nA kind head name op lit ehead ename hi lo Ae args.length ecap A thn.length cap A' els.length cap') 47
 obtain ⟨v0,v1,v2,v3,v4,v5,v6,v7⟩:=fs cv
 obtain ⟨z0,z1,z2,z3,z4,z5,z6,z7,z8,z9,z10,z11,z12,z13⟩:=dm cz
 clear cv cz
 have hBz:B≤wz.heap.size:=by omega
 have hPz:=aa (hP.below (hw.out.mono hB))
 clear hP
 clear hPz
 have i1:(kind==1)=false:=beq_eq_false_iff_ne.2 n1
 have i2:(kind==2)=false:=beq_eq_false_iff_ne.2 n2
 have i5:(kind==5)=false:=beq_eq_false_iff_ne.2 n5
 go_enter func37,ntmps37
 go_wp2
 (try simp only [Exit.inBlock,Exit.then])
 refine bodyPost_end (results_none rfl _ _ _) rfl ?_
 exact ⟨rfl,hw.out⟩
def rg (p:Pg) (head name:ByteArray):Prop:=if head=aB then 0≤ct p name else 0≤aJ p (ap p head) name
theorem mR {p:Pg} {s:ByteArray} (h:0≤ct p s):∃ k:Nat,k<p.metas.length∧ct p s=(k:Int):=by
 obtain ⟨k,hk,he⟩:=dB (l:=p.metas.map Prod.fst) (a:=s) (by show ¬ct p s<0;omega)
 exact ⟨k,by simpa using hk,he⟩
theorem lp {p:Pg} {head name:ByteArray} (h:0≤aJ p (ap p head) name):
  ∃ (k:Nat) (hk:k<p.headers.length) (j:Nat) (_:j<p.headers[k].fields.length),ap p head=(k:Int)∧aJ p (k:Int) name=(j:Int):=by
 by_cases hh:ap p head<0
 ·unfold aJ at h;rw [if_pos hh] at h;omega
 ·obtain ⟨k,hk,he⟩:=ft hh
  rw [he,io hk] at h
  obtain ⟨j,hj,hf⟩:=dB (l:=p.headers[k].fields.map Prod.fst) (a:=name) (by show ¬cw p.headers[k].fields name<0;omega)
  exact ⟨k,hk,j,by simpa using hj,he,by rw [io hk];exact hf⟩
theorem eL {l:List Fd} (h:l.all gB=true) {k:Nat} (hk:k<l.length):∃ n:Nat,1≤n∧n≤128∧l[k].2=(n:Int):=by
 have:=ik h l[k] (Bv hk)
 exact ⟨l[k].2.toNat,by omega,by omega,by omega⟩
theorem vv (A1 A2 A3 A4 A5 A6 A7:Option Addr) (p:Pg) (c1 c2 c3 c4 c5 c6 c7:Nat) (act:Int) (B:Nat) (hm:bg p=true) (s:St) (he:∀ kind head name e thn els,s=.mk kind head name e thn els→(kind=1∨kind=2∨kind=5→aT e=true)∧(kind=1→rg p head name)) (cs:List Value) (w:World) (hB:B≤w.heap.size) (hP:bu w B A1 A2 A3 A4 A5 A6 A7 p) (h:dR w B cs s):
  Calls prog 37 #[.agg (dw p A1 A2 A3 A4 A5 A6 A7 c1 c2 c3 c4 c5 c6 c7 act),.agg cs.toArray] w fun z w'=>z=fq (lj p act s)∧Below w.heap.size w w':=by
 unfold dw
 obtain ⟨kind,head,name,e,thn,els⟩:=s
 obtain ⟨hE,hset⟩:=he _ _ _ _ _ _ rfl
 have hm':=hm
 simp only [bg,Bn] at hm'
 obtain ⟨⟨⟨⟨⟨⟨⟨_,hh⟩,hmt⟩,_⟩,_⟩,_⟩,_⟩,_⟩:=hm'
 by_cases h1:kind=1
 ·subst h1
  have hs:=hset rfl
  unfold rg at hs
  by_cases h0:head=aB
  ·rw [if_pos h0] at hs
   obtain ⟨k,hk,hkz⟩:=mR hs
   obtain ⟨n,n1,n2,hn⟩:=eL hmt hk
   have hr:lj p act (.mk 1 head name e thn els)=dE p act e (n:Int):=by
    simp only [lj,if_true,xF,if_pos h0,kw,hkz,BM,Bk hk,Option.elim,hn]
   rw [hr]
   exact xG A1 A2 A3 A4 A5 A6 A7 p c1 c2 c3 c4 c5 c6 c7 act B hm head name e thn els n n1 n2 k hk hkz hn h0 (hE (.inl rfl)) cs w hB hP h
  ·rw [if_neg h0] at hs
   obtain ⟨k,hk,j,hj,hkz,hjz⟩:=lp hs
   have hd:=Bw.1 hh _ (Bv hk)
   simp only [iJ,Bn] at hd
   obtain ⟨n,n1,n2,hn⟩:=eL hd.2 hj
   have hr:lj p act (.mk 1 head name e thn els)=dE p act e (n:Int):=by
    simp only [lj,if_true,xF,if_neg h0,kw,hkz,hjz,BM,Bk hk,Option.elim,Bk hj,hn]
   rw [hr]
   exact vt A1 A2 A3 A4 A5 A6 A7 p c1 c2 c3 c4 c5 c6 c7 act B hm head name e thn els n n1 n2 k hk hkz j hj hjz hn h0 (hE (.inl rfl)) cs w hB hP h
 ·by_cases h2:kind=2
  ·subst h2
   exact zZ A1 A2 A3 A4 A5 A6 A7 p c1 c2 c3 c4 c5 c6 c7 act B hm head name e thn els _ (by simp only [lj,if_neg h1,if_true];cases bI p act e<;>rfl) (hE (.inr (.inl rfl))) cs w hB hP h
  ·by_cases h5:kind=5
   ·subst h5
    exact zj A1 A2 A3 A4 A5 A6 A7 p c1 c2 c3 c4 c5 c6 c7 act B hm head name e thn els _ (by simp only [lj,if_neg h1,if_neg h2,if_true];cases bI p act e<;>rfl) (hE (.inr (.inr rfl))) cs w hB hP h
   ·rw [show lj p act (.mk kind head name e thn els)=.ok () from by simp only [lj,if_neg h1,if_neg h2,if_neg h5]]
    exact vu A1 A2 A3 A4 A5 A6 A7 p c1 c2 c3 c4 c5 c6 c7 act B hm kind head name e thn els h1 h2 h5 cs w hB hP h
def aD {α:Type} (f:α→Rs Unit):List α→Rs Unit
 | []=>.ok ()
 |a::l=>match f a with
  | .error n=>.error n
  | .ok _=>aD f l
theorem iY {α:Type} (f:α→Rs Unit) (b:List α):∀ a:List α,aD f (a++b)=match aD f a with
  | .error n=>.error n
  | .ok _=>aD f b
 | []=>rfl
 |x::a=>by
  simp only [BC,aD]
  cases f x with
  |error n=>rfl
  |ok u=>exact iY f b a
theorem cS {α:Type} {f:α→Rs Unit} {l:List α} {k:Nat} {n:Int} (hk:k<l.length) (h:aD f (l.take k)=.ok ()) (hf:f l[k]=.error n):aD f l=.error n:=by
 have e:l=l.take k++l[k]::l.drop (k+1):=by rw [List.getElem_cons_drop,List.take_append_drop]
 rw [e,iY,h]
 simp only [aD,hf]
theorem cT {α:Type} {f:α→Rs Unit} {l:List α} {k:Nat} (hk:k<l.length) (h:aD f (l.take k)=.ok ()) (hf:f l[k]=.ok ()):aD f (l.take (k+1))=.ok ():=by
 rw [BO hk,iY,h]
 simp only [aD,hf]
theorem oI {α:Type} {f:α→Rs Unit}:∀ {l:List α},aD f l=.ok ()→∀ a∈l,f a=.ok ()
 |x::l,h,a,ha=>by
  simp only [aD] at h
  cases hx:f x with
  |error n=>rw [hx] at h;cases h
  |ok u=>
   rw [hx] at h
   rcases BI.1 ha with rfl|h'
   ·exact hx
   ·exact oI h a h'
def rh (t:Rs Ty):Rs Unit:=match t with
 | .error n=>.error n
 | .ok t=>if t.truth then .error 9 else if t.free then .error 10 else .ok ()
def dc (p:Pg) (e:Ex):Rs Unit:=rh (bI p (-1) e)
def fu (p:Pg) (x:Se×Ex):Rs Unit:=if x.1.kind=1 then .ok () else
 match bI p (-1) x.2 with
 | .error n=>.error n
 | .ok t=>match dI x.1.v t.w with
  | .error n=>.error n
  | .ok _=>if x.1.kind=3 then dI x.1.m t.w else .ok ()
def c9 (k:Int) (x:Ky):Rs Unit:=if x.kind=2∧k=2 then .error 8 else .ok ()
def eG (p:Pg) (l:List Ky) (j:Nat) (k:Ky):Rs Unit:=match dc p k.e with
 | .error n=>.error n
 | .ok _=>aD (c9 k.kind) (l.take j)
def gQ (x:Fd×Lt):Rs Unit:=dI x.2 x.1.2
theorem xH (A1 A2 A3 A4 A5 A6 A7:Option Addr) (p:Pg) (c1 c2 c3 c4 c5 c6 c7:Nat) (B a:Nat) (s:ByteArray) (w:World) (hB:B≤w.heap.size) (hP:bu w B A1 A2 A3 A4 A5 A6 A7 p) (ha:a<w.heap.size) (hx:∀ i,w.cell? ⟨a,i,none⟩=((aq p A1 A2 A3 A4 A5 A6 A7 c1 c2 c3 c4 c5 c6 c7):Array Value)[i]?):
  Calls prog 157 #[.string s,.pointer (some ⟨a,0,none⟩)] w fun r w'=>r=.returned (.int .i64 (zO p s))∧Below w.heap.size w w':=by
 obtain ⟨z0,z1,z2,z3,z4,z5,z6⟩:=aF (w:=w) (a:=a) fun i=>hx i
 have hS:=aa (ow w A1 A2 A3 A4 A5 A6 A7 p c1 c2 c3 c4 c5 c6 c7 s hB hP)
 have hv:=aa (show zO p s=cF (!cA p s) 7 from rfl)
 generalize co p s=x at hS
 generalize cA p s=y at hS hv
 clear hx
 go_enter func157,ntmps157
 go_wp2_with (first|(go_at_call 86;refine hS.out.mono ?_;rintro e w1 ⟨rfl,hw1⟩)|(go_at_call 80;refine (mF _ _ _).mono ?_;rintro e w' ⟨rfl,rfl⟩))
 go_ret
 exact ⟨ag hv.out.symm,hw1⟩
theorem oJ:∀ args w,(callFunc 157 args).run prog w=.ok (.enter 157 args) w:=enters_of func157 (by kernel_rfl) rfl
end Go.Proofs.YtbbdhknagofghaaGreat

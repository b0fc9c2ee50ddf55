import Derived.Test.YtbbdhknagofghaaGreatTcp37
set_option linter.all false
set_option maxHeartbeats 8000000
set_option maxRecDepth 100000
open Go.Proofs.Tryz
namespace Go.Proofs.YtbbdhknagofghaaGreat
open _root_.Nat renaming lt_of_lt_of_le→Bg, le_trans→Bj, le_refl→Bm, zero_le→Bo
open _root_.Go.Calls renaming regrown_of→Bh
open _root_.Go.RowKit.Below renaming refl→Bi
open _root_.List renaming getElem?_eq_getElem→Bk, getElem_mem→Bv, all_eq_true→Bw, isEmpty_iff→Bx, take_of_length_le→BB
open _root_.Go.Sort renaming grow→Bl
open _root_.Bool renaming and_eq_true→Bn
open _root_.Int renaming toNat_natCast→BM
open Go.RowKit
theorem yc (A1 A2 A3 A4 A5 A6 A7:Option Addr) (p:Pg) (c1 c2 c3 c4 c5 c6 c7:Nat) (act:Int) (B:Nat) (hm:bg p=true) (head name:ByteArray) (e:Ex) (thn els:List St) (n:Nat) (h1:1≤n) (h2:n≤128) (k:Nat) (hk:k<p.metas.length) (hkz:ct p name=(k:Int)) (hn:p.metas[k].2=(n:Int)) (hh:head=aB) (he:aT e=true) (cs:List Value) (w:World) (hB:B≤w.heap.size) (hP:bu w B A1 A2 A3 A4 A5 A6 A7 p) (h:dR w B cs (.mk 1 head name e thn els)):
  Calls prog 43 #[.agg (aq p A1 A2 A3 A4 A5 A6 A7 c1 c2 c3 c4 c5 c6 c7),.int .i64 act,.agg cs.toArray] w fun z w'=>z=.returned (.int .i64 (bS (dE p act e n)))∧Below w.heap.size w w':=by
 unfold aq
 obtain ⟨es,A,cap,A',cap',rfl,-,-,-,hE,hT,hL⟩:=RS.inv h
 have l1:=hT.len
 have l2:=hL.len
 have hG0:=aa (fun (W:World) (hb:Below w.heap.size w W)=>m9 A1 A2 A3 A4 A5 A6 A7 p c1 c2 c3 c4 c5 c6 c7 act B (dH hm) e he n h1 h2 es W (Bj hB hb.size) (hP.below (hb.mono hB)) (ai.keep hE fun q hq=>(hb.mono hB).cell hq))
 generalize dE p act e n=r at hG0 ⊢
 obtain ⟨op,lit,ehead,ename,hi,lo,args⟩:=e
 obtain ⟨Ae,ecap,rfl,-,-,-,-,-,-,hs⟩:=RE.inv hE
 have l3:=hs.len
 clear hs h hT hL he hE
 show Calls _ _ #[.agg #[.slice A1 p.headers.length c1,.slice A2 p.metas.length c2,.slice A3 p.states.length c3,.slice A4 p.actions.length c4,.slice A5 p.tables.length c5,.slice A6 p.control.length c6,.slice A7 p.emit.length c7],.int .i64 act,.agg #[.int .u8 1,.string head,.string name,.int .u8 op,.int .i64 lit.1,.int .u64 lit.2.1,.int .u64 lit.2.2,.string ehead,.string ename,.int .i64 hi,.int .i64 lo,.slice Ae args.length ecap,.slice A thn.length cap,.slice A' els.length cap']] _ _
 obtain ⟨wu,hwu,hsu,wz,hwz,hsz,hw,cu,cz,-,hl1,hl2⟩:=kM w (aq p A1 A2 A3 A4 A5 A6 A7 c1 c2 c3 c4 c5 c6 c7) 30 (nA 1 head name op lit ehead ename hi lo Ae args.length ecap A thn.length cap A' els.length cap') 47
 obtain ⟨u0,u1,u2,u3,u4,u5,u6⟩:=aF cu
 obtain ⟨z0,z1,z2,z3,z4,z5,z6,z7,z8,z9,z10,z11,z12,z13⟩:=dm cz
 clear cu cz
 have hBz:B≤wz.heap.size:=by omega
 have hPz:=aa (hP.below (hw.out.mono hB))
 clear hP
 have hG:Hid (∀ W,Below wz.heap.size wz W→Calls prog 113 #[.agg (aq p A1 A2 A3 A4 A5 A6 A7 c1 c2 c3 c4 c5 c6 c7),.int .i64 act,.agg (aO op lit ehead ename hi lo Ae args.length ecap),.int .i64 (n:Int)] W fun e w'=>e=.returned (.int .i64 (bS r))∧Below W.heap.size W w'):=aa (fun W hb=>hG0.out W (hw.out.trans (hb.mono (by omega))))
 clear hG0
 have q1:(head.toList== [])=true:=by rw [ak.1 hh];rfl
 have q2:head.toList.isEmpty=true:=by rw [ak.1 hh];rfl
 have q3:head.toList= []:=ak.1 hh
 have hFl:∀ d os,Hid (Calls prog 114 #[.agg (aq p A1 A2 A3 A4 A5 A6 A7 c1 c2 c3 c4 c5 c6 c7),.string name] (Bl (redrawn wz d) os) _):=fun d os=>aa (eW _ A1 A2 A3 A4 A5 A6 A7 p c1 c2 c3 c4 c5 c6 c7 name (Bj hBz (cH wz d os)) (hPz.out.below ((below_regrown wz d os).mono hBz)))
 have hb0:Below wz.heap.size wz wz:=Bi _ _
 have hGl:=fun d os=>aa (hG.out _ (aA hb0 (Bm _) d os))
 rw [hkz] at hFl
 obtain ⟨b,o,ecs,hA,hb,hel,hcell,hf,-,-⟩:=hPz.out.metas.2 k _ (Bk hk)
 subst hA
 subst hf
 have lm:=hPz.out.metas.len
 have x1:wz.cell? ⟨b,o+k*2+1,none⟩=some (.int .i64 n):=by rw [←hn];exact hcell 1 _ rfl
 have hbw:b<wz.heap.size:=by omega
 have hkz':(k:Int)<(p.metas.length:Int):=by omega
 have hg:=ax hb0 hb0.size
 clear hcell hPz hn hkz hh hel hG hb0
 go_enter func43,ntmps43
 go_wp2_with fail
 refine cD ?_
 repeat (any_goals (first|go_big_quiet_step (first|(go_at_call 114;with_reducible exact Bh (hFl _ _).out)|(go_at_call 113;with_reducible exact Bh (hGl _ _).out))|quiet_step (first|(go_at_call 114;with_reducible exact Bh (hFl _ _).out)|(go_at_call 113;with_reducible exact Bh (hGl _ _).out))))
 refine wpQuiet_nil ?_
 intro w2 hw2
 replace hw2:=ac hw2
 go_wp2
 go_ret
 exact ⟨rfl,hw.out.trans (hw2.mono (by omega))⟩
theorem vR (A1 A2 A3 A4 A5 A6 A7:Option Addr) (p:Pg) (c1 c2 c3 c4 c5 c6 c7:Nat) (act:Int) (B:Nat) (hm:bg p=true) (head name:ByteArray) (e:Ex) (thn els:List St) (n:Nat) (h1:1≤n) (h2:n≤128) (k:Nat) (hk:k<p.headers.length) (hkz:ap p head=(k:Int)) (j:Nat) (hj:j<p.headers[k].fields.length) (hjz:aJ p (k:Int) name=(j:Int)) (hn:p.headers[k].fields[j].2=(n:Int)) (hh:¬head=aB) (he:aT e=true) (cs:List Value) (w:World) (hB:B≤w.heap.size) (hP:bu w B A1 A2 A3 A4 A5 A6 A7 p) (h:dR w B cs (.mk 1 head name e thn els)):
  Calls prog 43 #[.agg (aq p A1 A2 A3 A4 A5 A6 A7 c1 c2 c3 c4 c5 c6 c7),.int .i64 act,.agg cs.toArray] w fun z w'=>z=.returned (.int .i64 (bS (dE p act e n)))∧Below w.heap.size w w':=by
 unfold aq
 obtain ⟨es,A,cap,A',cap',rfl,-,-,-,hE,hT,hL⟩:=RS.inv h
 have l1:=hT.len
 have l2:=hL.len
 have hG0:=aa (fun (W:World) (hb:Below w.heap.size w W)=>m9 A1 A2 A3 A4 A5 A6 A7 p c1 c2 c3 c4 c5 c6 c7 act B (dH hm) e he n h1 h2 es W (Bj hB hb.size) (hP.below (hb.mono hB)) (ai.keep hE fun q hq=>(hb.mono hB).cell hq))
 generalize dE p act e n=r at hG0 ⊢
 obtain ⟨op,lit,ehead,ename,hi,lo,args⟩:=e
 obtain ⟨Ae,ecap,rfl,-,-,-,-,-,-,hs⟩:=RE.inv hE
 have l3:=hs.len
 clear hs h hT hL he hE
 show Calls _ _ #[.agg #[.slice A1 p.headers.length c1,.slice A2 p.metas.length c2,.slice A3 p.states.length c3,.slice A4 p.actions.length c4,.slice A5 p.tables.length c5,.slice A6 p.control.length c6,.slice A7 p.emit.length c7],.int .i64 act,.agg #[.int .u8 1,.string head,.string name,.int .u8 op,.int .i64 lit.1,.int .u64 lit.2.1,.int .u64 lit.2.2,.string ehead,.string ename,.int .i64 hi,.int .i64 lo,.slice Ae args.length ecap,.slice A thn.length cap,.slice A' els.length cap']] _ _
 obtain ⟨wu,hwu,hsu,wz,hwz,hsz,hw,cu,cz,-,hl1,hl2⟩:=kM w (aq p A1 A2 A3 A4 A5 A6 A7 c1 c2 c3 c4 c5 c6 c7) 30 (nA 1 head name op lit ehead ename hi lo Ae args.length ecap A thn.length cap A' els.length cap') 47
 obtain ⟨u0,u1,u2,u3,u4,u5,u6⟩:=aF cu
 obtain ⟨z0,z1,z2,z3,z4,z5,z6,z7,z8,z9,z10,z11,z12,z13⟩:=dm cz
 clear cu cz
 have hBz:B≤wz.heap.size:=by omega
 have hPz:=aa (hP.below (hw.out.mono hB))
 clear hP
 have hG:Hid (∀ W,Below wz.heap.size wz W→Calls prog 113 #[.agg (aq p A1 A2 A3 A4 A5 A6 A7 c1 c2 c3 c4 c5 c6 c7),.int .i64 act,.agg (aO op lit ehead ename hi lo Ae args.length ecap),.int .i64 (n:Int)] W fun e w'=>e=.returned (.int .i64 (bS r))∧Below W.heap.size W w'):=aa (fun W hb=>hG0.out W (hw.out.trans (hb.mono (by omega))))
 clear hG0
 have q1:(head.toList== [])=false:=beq_eq_false_iff_ne.2 fun e=>hh (ak.2 e)
 have q2:head.toList.isEmpty=false:=by cases hq:head.toList.isEmpty with|false=>rfl|true=>exact absurd (ak.2 (Bx.1 hq)) hh
 have q3:¬head.toList= []:=fun e=>hh (ak.2 e)
 have hH:=aa (cC wz A1 A2 A3 A4 A5 A6 A7 p c1 c2 c3 c4 c5 c6 c7 head hBz hPz.out)
 rw [hkz] at hH
 have hFl:∀ W,Below wz.heap.size wz W→∀ d os,Hid (Calls prog 116 #[.agg (aq p A1 A2 A3 A4 A5 A6 A7 c1 c2 c3 c4 c5 c6 c7),.int .i64 (k:Int),.string name] (Bl (redrawn W d) os) _):=fun W hb d os=>aa (dF _ A1 A2 A3 A4 A5 A6 A7 p c1 c2 c3 c4 c5 c6 c7 (k:Int) name (Bj hBz (Bj hb.size (cH W d os))) (hPz.out.below ((aA hb hb.size d os).mono hBz)))
 rw [hjz] at hFl
 have hGl:=aa (fun W (hb:Below wz.heap.size wz W) d os=>aa (hG.out _ (aA hb hb.size d os)))
 obtain ⟨b,o,ecs,hA,hb,hel,hcell,B1,d1,hf,hn1,hS⟩:=hPz.out.headers.2 k _ (Bk hk)
 have lm:=hPz.out.headers.len
 subst hA
 subst hf
 have x1:wz.cell? ⟨b,o+k*2+1,none⟩=some (.slice B1 p.headers[k].fields.length d1):=hcell 1 _ rfl
 have lf:=hS.len
 obtain ⟨b2,o2,ecs2,hA2,hb2,hel2,hcell2,hf2,-,-⟩:=hS.2 j _ (Bk hj)
 subst hA2
 subst hf2
 have y1:wz.cell? ⟨b2,o2+j*2+1,none⟩=some (.int .i64 n):=by rw [←hn];exact hcell2 1 _ rfl
 have hbw:b<wz.heap.size:=by omega
 have hbw2:b2<wz.heap.size:=by omega
 have hkz':(k:Int)<(p.headers.length:Int):=by omega
 have hjz':(j:Int)<(p.headers[k].fields.length:Int):=by omega
 clear hcell hcell2 hPz hn hkz hjz hh hel hel2 hG hS
 generalize p.headers[k].fields.length=fl at*
 replace hFl:=aa hFl
 go_enter func43,ntmps43
 go_wp2_with (go_at_call 115;refine hH.out.mono ?_;rintro e w1 ⟨rfl,hb1⟩;have kb1:=ab hb1;have p1:=Bg hl1 hb1.size;have p2:=Bg hl2 hb1.size)
 have hF1:=hFl.out w1 hb1
 have hG1:=hGl.out w1 hb1
 have hg:=ax hb1 hb1.size
 refine cD ?_
 repeat (any_goals (first|go_big_quiet_step (first|(go_at_call 116;with_reducible exact Bh (hF1 _ _).out)|(go_at_call 113;with_reducible exact Bh (hG1 _ _).out))|quiet_step (first|(go_at_call 116;with_reducible exact Bh (hF1 _ _).out)|(go_at_call 113;with_reducible exact Bh (hG1 _ _).out))))
 refine wpQuiet_nil ?_
 intro w2 hw2
 replace hw2:=ac hw2
 go_wp2
 go_ret
 exact ⟨rfl,hw.out.trans ((hb1.trans (hw2.mono hb1.size)).mono (by omega))⟩
def Ay (r:Rs Ty):Rs Unit:=match r with
 | .error n=>.error n
 | .ok t=>if t.truth then .ok () else .error 9
def Az (r:Rs Ty) (fb:Bool):Rs Unit:=match r with
 | .error n=>.error n
 | .ok t=>if t.truth then .error 9 else if t.free then (if fb then .ok () else .error 5) else .ok ()
theorem Ak (A1 A2 A3 A4 A5 A6 A7:Option Addr) (p:Pg) (c1 c2 c3 c4 c5 c6 c7:Nat) (act:Int) (B:Nat) (hm:bg p=true) (head name:ByteArray) (e:Ex) (thn els:List St) (he:aT e=true) (cs:List Value) (w:World) (hB:B≤w.heap.size) (hP:bu w B A1 A2 A3 A4 A5 A6 A7 p) (h:dR w B cs (.mk 2 head name e thn els)):
  Calls prog 43 #[.agg (aq p A1 A2 A3 A4 A5 A6 A7 c1 c2 c3 c4 c5 c6 c7),.int .i64 act,.agg cs.toArray] w fun z w'=>z=.returned (.int .i64 (bS (Ay (bI p act e))))∧Below w.heap.size w w':=by
 unfold aq
 obtain ⟨es,A,cap,A',cap',rfl,-,-,-,hE,hT,hL⟩:=RS.inv h
 have l1:=hT.len
 have l2:=hL.len
 have hX0:=aa (fun (W:World) (hb:Below w.heap.size w W)=>hO A1 A2 A3 A4 A5 A6 A7 p c1 c2 c3 c4 c5 c6 c7 act B (dH hm) e he es W (Bj hB hb.size) (hP.below (hb.mono hB)) (ai.keep hE fun q hq=>(hb.mono hB).cell hq))
 have hF0:=aa (fun (t:Ty) (ht:bI p act e=.ok t) (hf:t.free=true) (W:World) (hb:Below w.heap.size w W)=>eS (dH hm) 9 (by omega) (by omega) e he ⟨t,ht,hf⟩ es W B (Bj hB hb.size) (ai.keep hE fun q hq=>(hb.mono hB).cell hq))
 have hne:=el (p:=p) act e
 generalize hfb:bB ((9:Nat):Int) e=fb at*
 generalize hra:bI p act e=ra at*
 obtain ⟨op,lit,ehead,ename,hi,lo,args⟩:=e
 obtain ⟨Ae,ecap,rfl,-,-,-,-,-,-,hs⟩:=RE.inv hE
 have l3:=hs.len
 clear hs h hT hL he hE
 show Calls _ _ #[.agg #[.slice A1 p.headers.length c1,.slice A2 p.metas.length c2,.slice A3 p.states.length c3,.slice A4 p.actions.length c4,.slice A5 p.tables.length c5,.slice A6 p.control.length c6,.slice A7 p.emit.length c7],.int .i64 act,.agg #[.int .u8 2,.string head,.string name,.int .u8 op,.int .i64 lit.1,.int .u64 lit.2.1,.int .u64 lit.2.2,.string ehead,.string ename,.int .i64 hi,.int .i64 lo,.slice Ae args.length ecap,.slice A thn.length cap,.slice A' els.length cap']] _ _
 obtain ⟨wu,hwu,hsu,wz,hwz,hsz,hw,cu,cz,-,hl1,hl2⟩:=kM w (aq p A1 A2 A3 A4 A5 A6 A7 c1 c2 c3 c4 c5 c6 c7) 30 (nA 2 head name op lit ehead ename hi lo Ae args.length ecap A thn.length cap A' els.length cap') 47
 obtain ⟨u0,u1,u2,u3,u4,u5,u6⟩:=aF cu
 obtain ⟨z0,z1,z2,z3,z4,z5,z6,z7,z8,z9,z10,z11,z12,z13⟩:=dm cz
 clear cu cz
 have hBz:B≤wz.heap.size:=by omega
 have hPz:=aa (hP.below (hw.out.mono hB))
 clear hP
 have hX:Hid (Calls prog 111 #[.agg (aq p A1 A2 A3 A4 A5 A6 A7 c1 c2 c3 c4 c5 c6 c7),.int .i64 act,.agg (aO op lit ehead ename hi lo Ae args.length ecap)] wz fun e w'=>e=.returned (.tuple #[.agg (gw (db ra).1),.int .i64 (db ra).2])∧Below wz.heap.size wz w'):=aa (hX0.out wz hw.out)
 clear hX0 hPz
 cases ra with
 |error m=>
  have hmq:(m==0)=false:=beq_eq_false_iff_ne.2 (hne m rfl)
  have hX1:=aa (show Calls prog _ _ wz fun e w'=>e=.returned (.tuple #[.agg #[.int .i64 0,.bool false,.bool false],.int .i64 m])∧Below wz.heap.size wz w' from hX.out)
  clear hX hne hF0
  go_enter func43,ntmps43
  go_wp2_with ((go_at_call 111;with_reducible refine hX1.out.mono ?_;rintro e w1 ⟨rfl,hb1⟩;have kb1:=ab hb1;have q1:=Bg hl1 hb1.size;have q2:=Bg hl2 hb1.size))
  go_ret
  exact ⟨ag (rfl),(hw.out.trans (hb1.mono (by omega))).alloc (by have:=hw.out.size;have:=hb1.size;omega) _⟩
 |ok t=>
  obtain ⟨tw,tr,tf⟩:=t
  have hX1:=aa (show Calls prog _ _ wz fun e w'=>e=.returned (.tuple #[.agg #[.int .i64 tw,.bool tr,.bool tf],.int .i64 0])∧Below wz.heap.size wz w' from hX.out)
  clear hX hne
  clear hF0
  cases tr with
  |true=>
   go_enter func43,ntmps43
   go_wp2_with ((go_at_call 111;with_reducible refine hX1.out.mono ?_;rintro e w1 ⟨rfl,hb1⟩;have kb1:=ab hb1;have q1:=Bg hl1 hb1.size;have q2:=Bg hl2 hb1.size))
   go_ret
   exact ⟨ag (rfl),(hw.out.trans (hb1.mono (by omega))).alloc (by have:=hw.out.size;have:=hb1.size;omega) _⟩
  |false=>
   go_enter func43,ntmps43
   go_wp2_with ((go_at_call 111;with_reducible refine hX1.out.mono ?_;rintro e w1 ⟨rfl,hb1⟩;have kb1:=ab hb1;have q1:=Bg hl1 hb1.size;have q2:=Bg hl2 hb1.size))
   go_ret
   exact ⟨ag (rfl),(hw.out.trans (hb1.mono (by omega))).alloc (by have:=hw.out.size;have:=hb1.size;omega) _⟩
theorem zy (A1 A2 A3 A4 A5 A6 A7:Option Addr) (p:Pg) (c1 c2 c3 c4 c5 c6 c7:Nat) (act:Int) (B:Nat) (hm:bg p=true) (head name:ByteArray) (e:Ex) (thn els:List St) (he:aT e=true) (cs:List Value) (w:World) (hB:B≤w.heap.size) (hP:bu w B A1 A2 A3 A4 A5 A6 A7 p) (h:dR w B cs (.mk 5 head name e thn els)):
  Calls prog 43 #[.agg (aq p A1 A2 A3 A4 A5 A6 A7 c1 c2 c3 c4 c5 c6 c7),.int .i64 act,.agg cs.toArray] w fun z w'=>z=.returned (.int .i64 (bS (Az (bI p act e) (bB ((9:Nat):Int) e))))∧Below w.heap.size w w':=by
 unfold aq
 obtain ⟨es,A,cap,A',cap',rfl,-,-,-,hE,hT,hL⟩:=RS.inv h
 have l1:=hT.len
 have l2:=hL.len
 have hX0:=aa (fun (W:World) (hb:Below w.heap.size w W)=>hO A1 A2 A3 A4 A5 A6 A7 p c1 c2 c3 c4 c5 c6 c7 act B (dH hm) e he es W (Bj hB hb.size) (hP.below (hb.mono hB)) (ai.keep hE fun q hq=>(hb.mono hB).cell hq))
 have hF0:=aa (fun (t:Ty) (ht:bI p act e=.ok t) (hf:t.free=true) (W:World) (hb:Below w.heap.size w W)=>eS (dH hm) 9 (by omega) (by omega) e he ⟨t,ht,hf⟩ es W B (Bj hB hb.size) (ai.keep hE fun q hq=>(hb.mono hB).cell hq))
 have hne:=el (p:=p) act e
 generalize hfb:bB ((9:Nat):Int) e=fb at*
 generalize hra:bI p act e=ra at*
 obtain ⟨op,lit,ehead,ename,hi,lo,args⟩:=e
 obtain ⟨Ae,ecap,rfl,-,-,-,-,-,-,hs⟩:=RE.inv hE
 have l3:=hs.len
 clear hs h hT hL he hE
 show Calls _ _ #[.agg #[.slice A1 p.headers.length c1,.slice A2 p.metas.length c2,.slice A3 p.states.length c3,.slice A4 p.actions.length c4,.slice A5 p.tables.length c5,.slice A6 p.control.length c6,.slice A7 p.emit.length c7],.int .i64 act,.agg #[.int .u8 5,.string head,.string name,.int .u8 op,.int .i64 lit.1,.int .u64 lit.2.1,.int .u64 lit.2.2,.string ehead,.string ename,.int .i64 hi,.int .i64 lo,.slice Ae args.length ecap,.slice A thn.length cap,.slice A' els.length cap']] _ _
 obtain ⟨wu,hwu,hsu,wz,hwz,hsz,hw,cu,cz,-,hl1,hl2⟩:=kM w (aq p A1 A2 A3 A4 A5 A6 A7 c1 c2 c3 c4 c5 c6 c7) 30 (nA 5 head name op lit ehead ename hi lo Ae args.length ecap A thn.length cap A' els.length cap') 47
 obtain ⟨u0,u1,u2,u3,u4,u5,u6⟩:=aF cu
 obtain ⟨z0,z1,z2,z3,z4,z5,z6,z7,z8,z9,z10,z11,z12,z13⟩:=dm cz
 clear cu cz
 have hBz:B≤wz.heap.size:=by omega
 have hPz:=aa (hP.below (hw.out.mono hB))
 clear hP
 have hX:Hid (Calls prog 111 #[.agg (aq p A1 A2 A3 A4 A5 A6 A7 c1 c2 c3 c4 c5 c6 c7),.int .i64 act,.agg (aO op lit ehead ename hi lo Ae args.length ecap)] wz fun e w'=>e=.returned (.tuple #[.agg (gw (db ra).1),.int .i64 (db ra).2])∧Below wz.heap.size wz w'):=aa (hX0.out wz hw.out)
 clear hX0 hPz
 cases ra with
 |error m=>
  have hmq:(m==0)=false:=beq_eq_false_iff_ne.2 (hne m rfl)
  have hX1:=aa (show Calls prog _ _ wz fun e w'=>e=.returned (.tuple #[.agg #[.int .i64 0,.bool false,.bool false],.int .i64 m])∧Below wz.heap.size wz w' from hX.out)
  clear hX hne hF0
  go_enter func43,ntmps43
  go_wp2_with ((go_at_call 111;with_reducible refine hX1.out.mono ?_;rintro e w1 ⟨rfl,hb1⟩;have kb1:=ab hb1;have q1:=Bg hl1 hb1.size;have q2:=Bg hl2 hb1.size))
  go_ret
  exact ⟨ag (rfl),(hw.out.trans (hb1.mono (by omega))).alloc (by have:=hw.out.size;have:=hb1.size;omega) _⟩
 |ok t=>
  obtain ⟨tw,tr,tf⟩:=t
  have hX1:=aa (show Calls prog _ _ wz fun e w'=>e=.returned (.tuple #[.agg #[.int .i64 tw,.bool tr,.bool tf],.int .i64 0])∧Below wz.heap.size wz w' from hX.out)
  clear hX hne
  cases tr with
  |true=>
   clear hF0
   go_enter func43,ntmps43
   go_wp2_with ((go_at_call 111;with_reducible refine hX1.out.mono ?_;rintro e w1 ⟨rfl,hb1⟩;have kb1:=ab hb1;have q1:=Bg hl1 hb1.size;have q2:=Bg hl2 hb1.size))
   go_ret
   exact ⟨ag (rfl),(hw.out.trans (hb1.mono (by omega))).alloc (by have:=hw.out.size;have:=hb1.size;omega) _⟩
  |false=>
   cases tf with
   |true=>
    have hF:=aa (show ∀ W,Below w.heap.size w W→Calls prog 117 #[.agg (aO op lit ehead ename hi lo Ae args.length ecap),.int .i64 9] W fun z w'=>z=.returned (.bool fb)∧Below W.heap.size W w' from hF0.out ⟨tw,false,true⟩ rfl rfl)
    clear hF0
    clear hfb
    cases fb with
    |true=>
     go_enter func43,ntmps43
     go_wp2_with (first|(go_at_call 111;with_reducible refine hX1.out.mono ?_;rintro e w1 ⟨rfl,hb1⟩;have kb1:=ab hb1;have q1:=Bg hl1 hb1.size;have q2:=Bg hl2 hb1.size)|(go_at_call 117;with_reducible refine (hF.out _ ((hw.out.trans (hb1.mono (by omega))).alloc (by have:=hw.out.size;have:=hb1.size;omega) _)).mono ?_;rintro e w2 ⟨rfl,hb2⟩;have kb2:=ab hb2))
     go_ret
     exact ⟨ag (rfl),((hw.out.trans (hb1.mono (by omega))).alloc (by have:=hw.out.size;have:=hb1.size;omega) _).trans (hb2.mono (by simp;have:=hw.out.size;have:=hb1.size;omega))⟩
    |false=>
     go_enter func43,ntmps43
     go_wp2_with (first|(go_at_call 111;with_reducible refine hX1.out.mono ?_;rintro e w1 ⟨rfl,hb1⟩;have kb1:=ab hb1;have q1:=Bg hl1 hb1.size;have q2:=Bg hl2 hb1.size)|(go_at_call 117;with_reducible refine (hF.out _ ((hw.out.trans (hb1.mono (by omega))).alloc (by have:=hw.out.size;have:=hb1.size;omega) _)).mono ?_;rintro e w2 ⟨rfl,hb2⟩;have kb2:=ab hb2))
     go_ret
     exact ⟨ag (rfl),((hw.out.trans (hb1.mono (by omega))).alloc (by have:=hw.out.size;have:=hb1.size;omega) _).trans (hb2.mono (by simp;have:=hw.out.size;have:=hb1.size;omega))⟩
   |false=>
    clear hF0
    go_enter func43,ntmps43
    go_wp2_with ((go_at_call 111;with_reducible refine hX1.out.mono ?_;rintro e w1 ⟨rfl,hb1⟩;have kb1:=ab hb1;have q1:=Bg hl1 hb1.size;have q2:=Bg hl2 hb1.size))
    go_ret
    exact ⟨ag (rfl),(hw.out.trans (hb1.mono (by omega))).alloc (by have:=hw.out.size;have:=hb1.size;omega) _⟩
theorem vS (A1 A2 A3 A4 A5 A6 A7:Option Addr) (p:Pg) (c1 c2 c3 c4 c5 c6 c7:Nat) (act:Int) (B:Nat) (hm:bg p=true) (kind:Int) (head name:ByteArray) (e:Ex) (thn els:List St) (n1:¬kind=1) (n2:¬kind=2) (n5:¬kind=5) (cs:List Value) (w:World) (hB:B≤w.heap.size) (hP:bu w B A1 A2 A3 A4 A5 A6 A7 p) (h:dR w B cs (.mk kind head name e thn els)):
  Calls prog 43 #[.agg (aq p A1 A2 A3 A4 A5 A6 A7 c1 c2 c3 c4 c5 c6 c7),.int .i64 act,.agg cs.toArray] w fun z w'=>z=.returned (.int .i64 (bS ((.ok ():Rs Unit))))∧Below w.heap.size w w':=by
 unfold aq
 obtain ⟨es,A,cap,A',cap',rfl,-,-,-,hE,hT,hL⟩:=RS.inv h
 have l1:=hT.len
 have l2:=hL.len
 obtain ⟨op,lit,ehead,ename,hi,lo,args⟩:=e
 obtain ⟨Ae,ecap,rfl,-,-,-,-,-,-,hs⟩:=RE.inv hE
 have l3:=hs.len
 clear hs h hT hL hE
 show Calls _ _ #[.agg #[.slice A1 p.headers.length c1,.slice A2 p.metas.length c2,.slice A3 p.states.length c3,.slice A4 p.actions.length c4,.slice A5 p.tables.length c5,.slice A6 p.control.length c6,.slice A7 p.emit.length c7],.int .i64 act,.agg #[.int .u8 kind,.string head,.string name,.int .u8 op,.int .i64 lit.1,.int .u64 lit.2.1,.int .u64 lit.2.2,.string ehead,.string ename,.int .i64 hi,.int .i64 lo,.slice Ae args.length ecap,.slice A thn.length cap,.slice A' els.length cap']] _ _
 obtain ⟨wu,hwu,hsu,wz,hwz,hsz,hw,cu,cz,-,hl1,hl2⟩:=kM w (aq p A1 A2 A3 A4 A5 A6 A7 c1 c2 c3 c4 c5 c6 c7) 30 (nA kind head name op lit ehead ename hi lo Ae args.length ecap A thn.length cap A' els.length cap') 47
 obtain ⟨u0,u1,u2,u3,u4,u5,u6⟩:=aF cu
 obtain ⟨z0,z1,z2,z3,z4,z5,z6,z7,z8,z9,z10,z11,z12,z13⟩:=dm cz
 clear cu cz
 have hBz:B≤wz.heap.size:=by omega
 have hPz:=aa (hP.below (hw.out.mono hB))
 clear hP
 clear hPz
 have i1:(kind==1)=false:=beq_eq_false_iff_ne.2 n1
 have i2:(kind==2)=false:=beq_eq_false_iff_ne.2 n2
 have i5:(kind==5)=false:=beq_eq_false_iff_ne.2 n5
 go_enter func43,ntmps43
 go_wp2
 go_ret
 exact ⟨rfl,hw.out⟩
theorem tB (A1 A2 A3 A4 A5 A6 A7:Option Addr) (p:Pg) (c1 c2 c3 c4 c5 c6 c7:Nat) (act:Int) (B:Nat) (hm:bg p=true) (s:St) (he:∀ kind head name e thn els,s=.mk kind head name e thn els→(kind=1∨kind=2∨kind=5→aT e=true)∧(kind=1→rg p head name)) (cs:List Value) (w:World) (hB:B≤w.heap.size) (hP:bu w B A1 A2 A3 A4 A5 A6 A7 p) (h:dR w B cs s):
  Calls prog 43 #[.agg (aq p A1 A2 A3 A4 A5 A6 A7 c1 c2 c3 c4 c5 c6 c7),.int .i64 act,.agg cs.toArray] w fun z w'=>z=.returned (.int .i64 (bS (lj p act s)))∧Below w.heap.size w w':=by
 unfold aq
 obtain ⟨kind,head,name,e,thn,els⟩:=s
 obtain ⟨hE,hset⟩:=he _ _ _ _ _ _ rfl
 have hm':=hm
 simp only [bg,Bn] at hm'
 obtain ⟨⟨⟨⟨⟨⟨⟨_,hh⟩,hmt⟩,_⟩,_⟩,_⟩,_⟩,_⟩:=hm'
 by_cases h1:kind=1
 ·subst h1
  have hs:=hset rfl
  unfold rg at hs
  by_cases h0:head=aB
  ·rw [if_pos h0] at hs
   obtain ⟨k,hk,hkz⟩:=mR hs
   obtain ⟨n,n1,n2,hn⟩:=eL hmt hk
   have hr:lj p act (.mk 1 head name e thn els)=dE p act e (n:Int):=by
    simp only [lj,if_true,xF,if_pos h0,kw,hkz,BM,Bk hk,Option.elim,hn]
   rw [hr]
   exact yc A1 A2 A3 A4 A5 A6 A7 p c1 c2 c3 c4 c5 c6 c7 act B hm head name e thn els n n1 n2 k hk hkz hn h0 (hE (.inl rfl)) cs w hB hP h
  ·rw [if_neg h0] at hs
   obtain ⟨k,hk,j,hj,hkz,hjz⟩:=lp hs
   have hd:=Bw.1 hh _ (Bv hk)
   simp only [iJ,Bn] at hd
   obtain ⟨n,n1,n2,hn⟩:=eL hd.2 hj
   have hr:lj p act (.mk 1 head name e thn els)=dE p act e (n:Int):=by
    simp only [lj,if_true,xF,if_neg h0,kw,hkz,hjz,BM,Bk hk,Option.elim,Bk hj,hn]
   rw [hr]
   exact vR A1 A2 A3 A4 A5 A6 A7 p c1 c2 c3 c4 c5 c6 c7 act B hm head name e thn els n n1 n2 k hk hkz j hj hjz hn h0 (hE (.inl rfl)) cs w hB hP h
 ·by_cases h2:kind=2
  ·subst h2
   rw [show lj p act (.mk 2 head name e thn els)=Ay (bI p act e) from by simp only [lj,if_neg h1,if_true];cases bI p act e<;>rfl]
   exact Ak A1 A2 A3 A4 A5 A6 A7 p c1 c2 c3 c4 c5 c6 c7 act B hm head name e thn els (hE (.inr (.inl rfl))) cs w hB hP h
  ·by_cases h5:kind=5
   ·subst h5
    rw [show lj p act (.mk 5 head name e thn els)=Az (bI p act e) (bB ((9:Nat):Int) e) from by simp only [lj,if_neg h1,if_neg h2,if_true];cases bI p act e<;>rfl]
    exact zy A1 A2 A3 A4 A5 A6 A7 p c1 c2 c3 c4 c5 c6 c7 act B hm head name e thn els (hE (.inr (.inr rfl))) cs w hB hP h
   ·rw [show lj p act (.mk kind head name e thn els)=.ok () from by simp only [lj,if_neg h1,if_neg h2,if_neg h5]]
    exact vS A1 A2 A3 A4 A5 A6 A7 p c1 c2 c3 c4 c5 c6 c7 act B hm kind head name e thn els h1 h2 h5 cs w hB hP h
theorem na {l:Lt} {w n:Int} (h:dI l w=.error n):n≠0:=by
 unfold dI at h
 repeat' split at h
 all_goals first
  |(cases h;done)
  |(injection h with h;omega)
theorem pS (A1 A2 A3 A4 A5 A6 A7:Option Addr) (p:Pg) (c1 c2 c3 c4 c5 c6 c7:Nat) (B:Nat) (hm:bg p=true) (sets:List Se) (keys:List Ex) (hks:∀ e∈keys,aT e=true) (hkeys:∀ e∈keys,dc p e=.ok ()) (hlen:sets.length≤keys.length) (sname sdest cdest:ByteArray) (cd:Bool) (B1 B2 B3 P1:Option Addr) (n1 d1 d2 n3 d3 e1:Nat) (w:World) (hB:B≤w.heap.size) (hP:bu w B A1 A2 A3 A4 A5 A6 A7 p) (hK:Sl 9 dL w B B2 keys) (hQ0:Sl 7 Aq w B P1 sets):
  Calls prog 42 #[.agg (aq p A1 A2 A3 A4 A5 A6 A7 c1 c2 c3 c4 c5 c6 c7),.agg #[.string sname,.slice B1 n1 d1,.string sdest,.slice B2 keys.length d2,.slice B3 n3 d3],.agg #[.bool cd,.slice P1 sets.length e1,.string cdest]] w fun z w'=>z=.returned (.int .i64 (bS (aD (fu p) (sets.zip keys))))∧Below w.heap.size w w':=by
 unfold aq
 have hX0:∀ e∈keys,∀ (ecs:List Value) (W:World),Below w.heap.size w W→dL w B ecs e→Calls prog 111 #[.agg (aq p A1 A2 A3 A4 A5 A6 A7 c1 c2 c3 c4 c5 c6 c7),.int .i64 (-1),.agg ecs.toArray] W fun r w'=>r=.returned (.tuple #[.agg (gw (db (bI p (-1) e)).1),.int .i64 (db (bI p (-1) e)).2])∧Below W.heap.size W w':=
  fun e he ecs W hb hr=>hO A1 A2 A3 A4 A5 A6 A7 p c1 c2 c3 c4 c5 c6 c7 (-1) B (dH hm) e (hks e he) ecs W (Bj hB hb.size) (hP.below (hb.mono hB)) (ai.keep hr fun q hq=>(hb.mono hB).cell hq)
 have hok:∀ e∈keys,∃ n:Nat,1≤n∧n≤128∧bI p (-1) e=.ok ⟨(n:Int),false,false⟩:=fun e he=>by
  have h1:=hkeys e he
  unfold dc at h1
  cases h2:bI p (-1) e with
  |error n=>rw [h2] at h1;cases h1
  |ok t=>
   have h3:=wV hm (-1) e (hks e he) t h2
   obtain ⟨tw,tr,tf⟩:=t
   rw [h2] at h1
   cases tr with
   |true=>cases h1
   |false=>
    cases tf with
    |true=>cases h1
    |false=>
     have h4:=h3.2 rfl rfl
     simp only at h4
     exact ⟨tw.toNat,by omega,by omega,by rw [show ((tw.toNat:Nat):Int)=tw from by omega]⟩
 have ls:=hQ0.len
 have lk:=hK.len
 obtain ⟨wu,hwu,hsu,ws,hws,hss,wk,hwk,hsk,hw,cu,cs,ck,-,hl1,hl2,hl3⟩:=ql w (aq p A1 A2 A3 A4 A5 A6 A7 c1 c2 c3 c4 c5 c6 c7) 30 #[.string sname,.slice B1 n1 d1,.string sdest,.slice B2 keys.length d2,.slice B3 n3 d3] 61 #[.bool cd,.slice P1 sets.length e1,.string cdest] 70
 obtain ⟨u0,u1,u2,u3,u4,u5,u6⟩:=aF cu
 obtain ⟨s0,s1,s2,s3,s4⟩:=fR cs
 obtain ⟨k0,k1,k2⟩:=bF ck
 clear cu cs ck
 have hBz:B≤wk.heap.size:=by omega
 have hK2:=aa (hK.below ai (hw.out.mono hB))
 have hQ:=aa (hQ0.below jW (hw.out.mono hB))
 have hX0':Hid (∀ e∈keys,∀ (ecs:List Value) (W:World),Below wk.heap.size wk W→dL wk B ecs e→Calls prog 111 _ W _):=aa (fun e he ecs W hb hr=>hX0 e he ecs W (hw.out.trans (hb.mono (by omega))) (ai.keep hr fun q hq=>((hw.out.mono hB).cell hq).symm))
 clear hX0 hK hQ0 hP hks hkeys
 obtain ⟨wo,rfl⟩:∃ wo:World,wo=wk:=⟨_,rfl⟩
 have hs0:=aa (Bi wo.heap.size wo)
 go_enter func42,ntmps42
 go_wp2_with fail
 go_loopw [7] (fun q wr=>∃ q':Nat,q'≤sets.length∧q=.int .i64 q'∧Hid (aD (fu p) ((sets.zip keys).take q')=.ok ())∧Hid (Below wo.heap.size wo wr)) (fun q _=>sets.length-(intOf q).toNat)
 case atStart=>exact ⟨0,Bo _,rfl,aa (by simp [aD]),hs0⟩
 case round=>
  clear hs0
  obtain ⟨q,hq,rfl,ht,hbr⟩:=hrel
  have hzr:=hbr.out.size
  have hc:=ab hbr.out
  have r1:=Bg hl1 hzr
  have r2:=Bg hl2 hzr
  have r3:=Bg hl3 hzr
  by_cases hlt:q<sets.length
  ·have hltk:q<keys.length:=by omega
   have hltt:q<(sets.zip keys).length:=by rw [List.length_zip];omega
   obtain ⟨g3,o3,ecs3,hA3,hb3',hel3,hcell3,hf3,-,hokv,hokm⟩:=hQ.out.2 q _ (Bk hlt)
   obtain ⟨g4,o4,ecs4,hA4,hb4',hel4,hcell4,hr4⟩:=hK2.out.2 q _ (Bk hltk)
   subst hA3
   subst hA4
   obtain ⟨n,h1,h2,hn⟩:=hok _ (Bv hltk)
   have hltz:(q:Int)<(sets.length:Int):=by omega
   have hltz2:(q:Int)<(keys.length:Int):=by omega
   have hst:=aa (fun n h=>cS (f:=fu p) (n:=n) hltt ht.out h)
   have hnx:=aa (fun h=>cT (f:=fu p) hltt ht.out h)
   rw [List.getElem_zip] at hst hnx
   have hX1:=aa (fun (W:World) (hW:Below wo.heap.size wo W)=>hX0'.out _ (Bv hltk) ecs4 W hW hr4)
   have hkr:=aa (show fu p (sets[q],keys[q])=if sets[q].kind=1 then .ok () else match dI sets[q].v (n:Int) with| .error n=>.error n| .ok _=>if sets[q].kind=3 then dI sets[q].m (n:Int) else .ok () from by unfold fu;simp only [hn];split<;>first|rfl|(cases dI sets[q].v (n:Int)<;>rfl))
   rw [hn] at hX1
   generalize fu p (sets[q],keys[q])=kr at hst hnx hkr
   generalize keys[q]=e at hr4
   generalize sets[q]=set at hf3 hokv hokm hkr
   obtain ⟨sk,sv,sm⟩:=set
   simp only at hf3 hokv hokm hkr
   subst hf3
   have hV:=fun (W:World)=>ky sv n h1 h2 hokv W
   have hM:=fun (W:World)=>ky sm n h1 h2 hokm W
   have hrv:=aa (fun (m:Int) (h:dI sv (n:Int)=.error m)=>na h)
   have hrm:=aa (fun (m:Int) (h:dI sm (n:Int)=.error m)=>na h)
   generalize dI sv (n:Int)=rv at hV hkr hrv
   generalize dI sm (n:Int)=rm at hM hkr hrm
   obtain ⟨ope,lite,heade,namee,hie,loe,argse⟩:=e
   obtain ⟨Ae,cape,rfl,-,-,-,-,-,-,hs'⟩:=RE.inv hr4
   have hl':=hs'.len
   obtain ⟨l0,l1,l2,l3,l4,l5,l6,l7,l8⟩:=cl hcell4
   obtain ⟨b0,b1,b2,b3,b4,b5,b6⟩:=wR hcell3
   have f3:g3<wo.heap.size:=by omega
   have f4:g4<wo.heap.size:=by omega
   have f5:=Bg f3 hzr
   have f6:=Bg f4 hzr
   have hX2:Hid (∀ W,Below wr.heap.size wr W→Calls prog 111 #[.agg (aq p A1 A2 A3 A4 A5 A6 A7 c1 c2 c3 c4 c5 c6 c7),.int .i64 (-1),.agg (aO ope lite heade namee hie loe Ae argse.length cape)] W fun e w'=>e=.returned (.tuple #[.agg #[.int .i64 (n:Int),.bool false,.bool false],.int .i64 0])∧Below wr.heap.size wr w'∧Below W.heap.size W w'):=aa (fun W hb=>(hX1.out W (hbr.out.trans (hb.mono hzr))).mono fun e w' h=>⟨h.1,hb.trans (h.2.mono hb.size),h.2⟩)
   clear hcell3 hcell4 hokv hokm hr4 hs' hX1 hel3 hel4 hn
   go_upto_region 4 with fail
   go_cut [8,9] (fun sp er wx=>∃ g,sp=.pointer (some ⟨g,0,none⟩)∧er=.int .i64 0∧Hid (bZ wr wx g (n:Int) false false))
   case first=>
    go_region_held3 (fun w'=>Below wr.heap.size wr w'∧∀ b o,b<wr.heap.size→w'.cell? ⟨b,o,none⟩=wr.cell? ⟨b,o,none⟩) (first|exact bH (Bi _ _).drew|exact bH ((Bi _ _).drew.alloc (Bm _) _)|exact bH hb3|exact bH (hb3.alloc hb3.size _)|exact bH (ad (hb3.alloc hb3.size _) hb3.size _ _ _)|exact bH (ad hb3 (Bm _) _ _ _))
     ((go_at_call 111;refine (hX2.out _ (by first|exact (Bi _ _).drew|exact (Bi _ _).drew.alloc (Bm _) _)).mono ?_;rintro e w3 ⟨rfl,hb3,hb4⟩;have kb4:=cM hb4))
    all_goals go_wp2
    all_goals go_meet
    all_goals first
     |exact ⟨_,rfl,rfl,aa (bZ.new hb3 _ _ _)⟩
     |exact ⟨_,rfl,rfl,aa (bZ.set rfl hb3 hb4 _ _ _)⟩
   case rest=>
    obtain ⟨gt,rfl,rfl,hT0⟩:=hcut
    obtain ⟨hbc,hgz,hgl,s0',s1',s2'⟩:=hT0.out
    have kbc:=ab hbc
    have q1:=Bg r1 hbc.size
    have q2:=Bg r2 hbc.size
    have q3:=Bg r3 hbc.size
    have f7:=Bg f5 hbc.size
    have f8:=Bg f6 hbc.size
    have hbX:=aa (hbr.out.trans (hbc.mono hzr))
    clear hX2
    by_cases hc1:sk=1
    ·have hres:=aa (hnx.out (hkr.out.trans (if_pos hc1)))
     clear hnx hst hkr hV hM
     subst hc1
     go_wp2
     go_roundw
     case rel=>exact ⟨q+1,by omega,by go_num,hres,hbX⟩
     case measure=>simp [intOf];omega
    ·have c1q:(sk !=1)=true:=bne_iff_ne.2 hc1
     replace hkr:=aa (hkr.out.trans (if_neg hc1))
     have hg:=ax (Bi wc.heap.size wc) (Bm _)
     cases rv with
     |error n7=>
      have hres:=aa (hst.out n7 hkr.out)
      have hne:(n7 !=0)=true:=bne_iff_ne.2 (hrv.out n7 rfl)
      have hV1:∀ d os,Hid (Calls prog 45 _ (Bl (redrawn wc d) os) fun e w'=>e=.returned (.int .i64 n7)∧Below (Bl (redrawn wc d) os).heap.size (Bl (redrawn wc d) os) w'):=fun d os=>aa (hV _)
      clear hnx hst hV hM
      go_wp2_with fail
      refine cD ?_
      repeat (any_goals (first|go_big_quiet_step (first|(go_at_call 45;with_reducible exact Bh (hV1 _ _).out))|quiet_step (first|(go_at_call 45;with_reducible exact Bh (hV1 _ _).out))))
      refine wpQuiet_nil ?_
      intro w5 hw5
      replace hw5:=ac hw5
      go_wp2
      go_ret
      exact ⟨by rw [hres.out];rfl,hw.out.trans ((hbX.out.trans (hw5.mono hbX.out.size)).mono (by omega))⟩
     |ok u=>
      have hV1:∀ d os,Hid (Calls prog 45 _ (Bl (redrawn wc d) os) fun e w'=>e=.returned (.int .i64 0)∧Below (Bl (redrawn wc d) os).heap.size (Bl (redrawn wc d) os) w'):=fun d os=>aa (hV _)
      clear hV
      by_cases hc3:sk=3
      ·replace hkr:=aa (hkr.out.trans (if_pos hc3))
       subst hc3
       clear hc1
       go_wp2_with fail
       refine cD ?_
       repeat (any_goals (first|go_big_quiet_step (first|(go_at_call 45;with_reducible exact Bh (hV1 _ _).out))|quiet_step (first|(go_at_call 45;with_reducible exact Bh (hV1 _ _).out))))
       refine wpQuiet_nil ?_
       intro w5 hw5
       replace hw5:=ac hw5
       have kb5:=ab hw5
       have t1:=Bg q1 hw5.size
       have t2:=Bg q2 hw5.size
       have t3:=Bg q3 hw5.size
       have t4:=Bg hgl hw5.size
       have t5:=Bg f7 hw5.size
       have t6:=Bg f8 hw5.size
       clear hg hV1
       have hg:=ax (Bi w5.heap.size w5) (Bm _)
       cases rm with
       |error n7=>
        have hres:=aa (hst.out n7 hkr.out)
        have hne:(n7 !=0)=true:=bne_iff_ne.2 (hrm.out n7 rfl)
        have hM1:∀ d os,Hid (Calls prog 45 _ (Bl (redrawn w5 d) os) fun e w'=>e=.returned (.int .i64 n7)∧Below (Bl (redrawn w5 d) os).heap.size (Bl (redrawn w5 d) os) w'):=fun d os=>aa (hM _)
        clear hnx hst hM
        go_wp2_with fail
        refine cD ?_
        repeat (any_goals (first|go_big_quiet_step (first|(go_at_call 45;with_reducible exact Bh (hM1 _ _).out))|quiet_step (first|(go_at_call 45;with_reducible exact Bh (hM1 _ _).out))))
        refine wpQuiet_nil ?_
        intro w6 hw6
        replace hw6:=ac hw6
        go_wp2
        go_ret
        exact ⟨by rw [hres.out];rfl,hw.out.trans (((hbX.out.trans (hw5.mono hbX.out.size)).trans (hw6.mono (Bj hbX.out.size hw5.size))).mono (by omega))⟩
       |ok u=>
        have hres:=aa (hnx.out hkr.out)
        have hM1:∀ d os,Hid (Calls prog 45 _ (Bl (redrawn w5 d) os) fun e w'=>e=.returned (.int .i64 0)∧Below (Bl (redrawn w5 d) os).heap.size (Bl (redrawn w5 d) os) w'):=fun d os=>aa (hM _)
        clear hnx hst hM
        go_wp2_with fail
        refine cD ?_
        repeat (any_goals (first|go_big_quiet_step (first|(go_at_call 45;with_reducible exact Bh (hM1 _ _).out))|quiet_step (first|(go_at_call 45;with_reducible exact Bh (hM1 _ _).out))))
        refine wpQuiet_nil ?_
        intro w6 hw6
        replace hw6:=ac hw6
        go_wp2
        go_roundw
        case rel=>exact ⟨q+1,by omega,by go_num,hres,aa ((hbX.out.trans (hw5.mono hbX.out.size)).trans (hw6.mono (Bj hbX.out.size hw5.size)))⟩
        case measure=>simp [intOf];omega
      ·have c3q:(sk==3)=false:=beq_eq_false_iff_ne.2 hc3
       have hres:=aa (hnx.out (hkr.out.trans (if_neg hc3)))
       clear hnx hst hM
       go_wp2_with fail
       refine cD ?_
       repeat (any_goals (first|go_big_quiet_step (first|(go_at_call 45;with_reducible exact Bh (hV1 _ _).out))|quiet_step (first|(go_at_call 45;with_reducible exact Bh (hV1 _ _).out))))
       refine wpQuiet_nil ?_
       intro w5 hw5
       replace hw5:=ac hw5
       have kb5:=ab hw5
       have t1:=Bg q1 hw5.size
       have t2:=Bg q2 hw5.size
       have t3:=Bg q3 hw5.size
       have t5:=Bg f7 hw5.size
       clear hg hV1
       go_wp2
       go_roundw
       case rel=>exact ⟨q+1,by omega,by go_num,hres,aa (hbX.out.trans (hw5.mono hbX.out.size))⟩
       case measure=>simp [intOf];omega
  ·have hfull:=aa (show aD (fu p) (sets.zip keys)=.ok () from by have h:=ht.out;rwa [BB (l:=sets.zip keys) (by rw [List.length_zip];omega)] at h)
   go_wp2
   go_ret
   exact ⟨by rw [hfull.out];rfl,hw.out.trans (hbr.out.mono (by omega))⟩
end Go.Proofs.YtbbdhknagofghaaGreat

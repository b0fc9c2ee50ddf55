import Derived.Test.YtbbdhknagofghaaGreatTcp09
set_option linter.all false
set_option maxHeartbeats 16000000
set_option maxRecDepth 100000
open Go.Proofs.Tryz
namespace Go.Proofs.YtbbdhknagofghaaGreat
open _root_.Nat renaming lt_of_lt_of_le→Bg, le_trans→Bj, le_refl→Bm
open _root_.Go.RowKit.Below renaming refl→Bi
open _root_.List renaming take_zero→Bz, take_succ_cons→BE
open Go.RowKit
section
attribute [local go_sem] fZ eF ev
theorem uR (A1 A2 A3 A4 A5 A6 A7:Option Addr) (p:Pg) (c1 c2 c3 c4 c5 c6 c7:Nat) (act:Int) (B:Nat) (op:Int) (lit:Lt) (head name:ByteArray) (hi lo:Int) (a b:Ex) (l:List Ex) (n7:Int) (hra:bI p act a=.error n7) (ih:gN A1 A2 A3 A4 A5 A6 A7 p c1 c2 c3 c4 c5 c6 c7 act B a) (ih2:gN A1 A2 A3 A4 A5 A6 A7 p c1 c2 c3 c4 c5 c6 c7 act B b) (cs:List Value) (w:World) (hB:B≤w.heap.size) (hP:bu w B A1 A2 A3 A4 A5 A6 A7 p) (h:dL w B cs (.mk op lit head name hi lo (a::b::l))):
  Calls prog 29 #[.agg (dw p A1 A2 A3 A4 A5 A6 A7 c1 c2 c3 c4 c5 c6 c7 act),.agg cs.toArray] w fun r w'=>r=fB (.error n7)∧Below w.heap.size w w':=by
 unfold dw
 obtain ⟨A,cap,rfl,-,-,-,-,-,-,hs⟩:=RE.inv h
 have hl:=hs.len
 clear h
 have hm2:2≤(a::b::l).length:=by simp
 generalize hml:(a::b::l).length=m at hl hm2
 clear hml
 have hmz0:((m:Int)==0)=false:=beq_eq_false_iff_ne.2 (by omega)
 have hmz1:((m:Int)==1)=false:=beq_eq_false_iff_ne.2 (by omega)
 have hmi0:(0:Int)<(m:Int):=by omega
 have hmi1:(1:Int)<(m:Int):=by omega
 have hmn0:0<m:=by omega
 have hmn1:1<m:=by omega
 show Calls _ _ #[.agg #[.slice A1 p.headers.length c1,.slice A2 p.metas.length c2,.slice A3 p.states.length c3,.slice A4 p.actions.length c4,.slice A5 p.tables.length c5,.slice A6 p.control.length c6,.slice A7 p.emit.length c7,.int .i64 act],.agg #[.int .u8 op,.int .i64 lit.1,.int .u64 lit.2.1,.int .u64 lit.2.2,.string head,.string name,.int .i64 hi,.int .i64 lo,.slice A m cap]] _ _
 obtain ⟨wv,hwv,hsv,we,hwe,hse,wz,hwz,hsz,hw,cv,ce,cz,hfr,hl1,hl2,hl3⟩:=ql w (dw p A1 A2 A3 A4 A5 A6 A7 c1 c2 c3 c4 c5 c6 c7 act) 88 (aO op lit head name hi lo A m cap) 45 #[.int .i64 0,.bool false,.bool false] 75
 obtain ⟨v0,v1,v2,v3,v4,v5,v6,v7⟩:=fs cv
 obtain ⟨e0,e1,e2,e3,e4,e5,e6,e7,e8⟩:=bU ce
 obtain ⟨z0,z1,z2⟩:=bF cz
 clear cv ce cz
 have hBz:B≤wz.heap.size:=by omega
 have hPz:=hP.below (hw.out.mono hB)
 have hSz:=hs.below ai (hw.out.mono hB)
 clear hP hs
 obtain ⟨g,o,ecs,hA,hbb,hel,hcell,hr⟩:=hSz.2 0 a rfl
 obtain ⟨g',o',ecs',hA',hbb',hel',hcell',hr'⟩:=hSz.2 1 b rfl
 subst hA
 obtain ⟨rfl,rfl⟩:g=g'∧o=o':=by simpa using hA'
 have hX:=aa (fun (W:World) (hb:Below wz.heap.size wz W)=>ih ecs W (Bj hBz hb.size) (hPz.below (hb.mono hBz)) (ai.keep hr fun q hq=>(hb.mono hBz).cell hq))
 have hY:=aa (fun (W:World) (hb:Below wz.heap.size wz W)=>ih2 ecs' W (Bj hBz hb.size) (hPz.below (hb.mono hBz)) (ai.keep hr' fun q hq=>(hb.mono hBz).cell hq))
 have hJ:=aa (fun (W:World) (hb:Below wz.heap.size wz W) (s t:Ty) (hs:cV s) (ht:cV t)=>dA a b ecs ecs' s t B W (Bj hBz hb.size) (ai.keep hr fun q hq=>(hb.mono hBz).cell hq) (ai.keep hr' fun q hq=>(hb.mono hBz).cell hq) hs ht)
 obtain ⟨opa,lita,heada,namea,hia,loa,argsa⟩:=a
 obtain ⟨Aa,capa,rfl,-,-,-,-,-,-,hsa'⟩:=RE.inv hr
 have la:=hsa'.len
 obtain ⟨opb,litb,headb,nameb,hib,lob,argsb⟩:=b
 obtain ⟨Ab,capb,rfl,-,-,-,-,-,-,hsb'⟩:=RE.inv hr'
 have lb:=hsb'.len
 obtain ⟨x0,x1,x2,x3,x4,x5,x6,x7,x8⟩:=cl hcell
 obtain ⟨y0,y1,y2,y3,y4,y5,y6,y7,y8⟩:=cl hcell'
 simp only [Nat.zero_mul,Nat.add_zero,Nat.one_mul] at x0 x1 x2 x3 x4 x5 x6 x7 x8 y0 y1 y2 y3 y4 y5 y6 y7 y8
 have hbw:g<wz.heap.size:=by omega
 change Hid (∀ W hb,Calls _ _ #[_,.agg (aO opa lita heada namea hia loa Aa argsa.length capa)] W _) at hX
 change Hid (∀ W hb,Calls _ _ #[_,.agg (aO opb litb headb nameb hib lob Ab argsb.length capb)] W _) at hY
 change Hid (∀ W hb s t hs ht,Calls _ _ #[.agg (aO opa lita heada namea hia loa Aa argsa.length capa),.agg (aO opb litb headb nameb hib lob Ab argsb.length capb),_,_] W _) at hJ
 clear hcell hcell' hr hr' hsa' hsb' hel hel' ih ih2 hSz hPz
 replace hX:=aa (show ∀ W,Below wz.heap.size wz W→Calls prog _ #[_,.agg (aO opa lita heada namea hia loa Aa argsa.length capa)] W fun e w'=>e=ji n7∧Below wz.heap.size wz w'∧Below W.heap.size W w' from fun W hb=>(hX.out W hb).mono fun e w' h=>⟨h.1.trans (by rw [hra];rfl),hb.trans (h.2.mono hb.size),h.2⟩)
 clear hY hJ
 go_enter func29,ntmps29
 go_wp2_with fail
 refine aN 5 (w2:=wz.drew.alloc (.cells #[.int .i64 0,.bool false,.bool false] 75)) (vf:=.pointer (some ⟨wz.heap.size,0,none⟩)) (by kernel_rfl) (by kernel_rfl) rfl (fun _=>rfl) (fun _=>by go_simp) ?_
 simp only [BE,Bz]
 repeat (refine bL (fun K hK=> ?_);go_simp;refine hK _ ?_;clear hK K)
 refine cm ⟨?_,?_⟩
 all_goals
  go_wp2_with (go_at_call 29;refine (hX.out _ (by first|exact (Bi _ _).drew|exact (Bi _ _).drew.alloc (Bm _) _)).mono ?_;rintro e w3 ⟨rfl,hb3,hb4⟩)
  exact ⟨rfl,rfl,hw.out.trans (hb3.mono (by omega))⟩
theorem sL (A1 A2 A3 A4 A5 A6 A7:Option Addr) (p:Pg) (c1 c2 c3 c4 c5 c6 c7:Nat) (act:Int) (B:Nat) (op:Int) (lit:Lt) (head name:ByteArray) (hi lo:Int) (a b:Ex) (l:List Ex) (sw:Int) (sr sf:Bool) (hra:bI p act a=.ok ⟨sw,sr,sf⟩) (hop:op=14∨op=15) (ih:gN A1 A2 A3 A4 A5 A6 A7 p c1 c2 c3 c4 c5 c6 c7 act B a) (ih2:gN A1 A2 A3 A4 A5 A6 A7 p c1 c2 c3 c4 c5 c6 c7 act B b) (cs:List Value) (w:World) (hB:B≤w.heap.size) (hP:bu w B A1 A2 A3 A4 A5 A6 A7 p) (h:dL w B cs (.mk op lit head name hi lo (a::b::l))):
  Calls prog 29 #[.agg (dw p A1 A2 A3 A4 A5 A6 A7 c1 c2 c3 c4 c5 c6 c7 act),.agg cs.toArray] w fun r w'=>r=fB (gv ⟨sw,sr,sf⟩)∧Below w.heap.size w w':=by
 unfold dw
 obtain ⟨A,cap,rfl,-,-,-,-,-,-,hs⟩:=RE.inv h
 have hl:=hs.len
 clear h
 have hm2:2≤(a::b::l).length:=by simp
 generalize hml:(a::b::l).length=m at hl hm2
 clear hml
 have hmz0:((m:Int)==0)=false:=beq_eq_false_iff_ne.2 (by omega)
 have hmz1:((m:Int)==1)=false:=beq_eq_false_iff_ne.2 (by omega)
 have hmi0:(0:Int)<(m:Int):=by omega
 have hmi1:(1:Int)<(m:Int):=by omega
 have hmn0:0<m:=by omega
 have hmn1:1<m:=by omega
 show Calls _ _ #[.agg #[.slice A1 p.headers.length c1,.slice A2 p.metas.length c2,.slice A3 p.states.length c3,.slice A4 p.actions.length c4,.slice A5 p.tables.length c5,.slice A6 p.control.length c6,.slice A7 p.emit.length c7,.int .i64 act],.agg #[.int .u8 op,.int .i64 lit.1,.int .u64 lit.2.1,.int .u64 lit.2.2,.string head,.string name,.int .i64 hi,.int .i64 lo,.slice A m cap]] _ _
 obtain ⟨wv,hwv,hsv,we,hwe,hse,wz,hwz,hsz,hw,cv,ce,cz,hfr,hl1,hl2,hl3⟩:=ql w (dw p A1 A2 A3 A4 A5 A6 A7 c1 c2 c3 c4 c5 c6 c7 act) 88 (aO op lit head name hi lo A m cap) 45 #[.int .i64 0,.bool false,.bool false] 75
 obtain ⟨v0,v1,v2,v3,v4,v5,v6,v7⟩:=fs cv
 obtain ⟨e0,e1,e2,e3,e4,e5,e6,e7,e8⟩:=bU ce
 obtain ⟨z0,z1,z2⟩:=bF cz
 clear cv ce cz
 have hBz:B≤wz.heap.size:=by omega
 have hPz:=hP.below (hw.out.mono hB)
 have hSz:=hs.below ai (hw.out.mono hB)
 clear hP hs
 obtain ⟨g,o,ecs,hA,hbb,hel,hcell,hr⟩:=hSz.2 0 a rfl
 obtain ⟨g',o',ecs',hA',hbb',hel',hcell',hr'⟩:=hSz.2 1 b rfl
 subst hA
 obtain ⟨rfl,rfl⟩:g=g'∧o=o':=by simpa using hA'
 have hX:=aa (fun (W:World) (hb:Below wz.heap.size wz W)=>ih ecs W (Bj hBz hb.size) (hPz.below (hb.mono hBz)) (ai.keep hr fun q hq=>(hb.mono hBz).cell hq))
 have hY:=aa (fun (W:World) (hb:Below wz.heap.size wz W)=>ih2 ecs' W (Bj hBz hb.size) (hPz.below (hb.mono hBz)) (ai.keep hr' fun q hq=>(hb.mono hBz).cell hq))
 have hJ:=aa (fun (W:World) (hb:Below wz.heap.size wz W) (s t:Ty) (hs:cV s) (ht:cV t)=>dA a b ecs ecs' s t B W (Bj hBz hb.size) (ai.keep hr fun q hq=>(hb.mono hBz).cell hq) (ai.keep hr' fun q hq=>(hb.mono hBz).cell hq) hs ht)
 obtain ⟨opa,lita,heada,namea,hia,loa,argsa⟩:=a
 obtain ⟨Aa,capa,rfl,-,-,-,-,-,-,hsa'⟩:=RE.inv hr
 have la:=hsa'.len
 obtain ⟨opb,litb,headb,nameb,hib,lob,argsb⟩:=b
 obtain ⟨Ab,capb,rfl,-,-,-,-,-,-,hsb'⟩:=RE.inv hr'
 have lb:=hsb'.len
 obtain ⟨x0,x1,x2,x3,x4,x5,x6,x7,x8⟩:=cl hcell
 obtain ⟨y0,y1,y2,y3,y4,y5,y6,y7,y8⟩:=cl hcell'
 simp only [Nat.zero_mul,Nat.add_zero,Nat.one_mul] at x0 x1 x2 x3 x4 x5 x6 x7 x8 y0 y1 y2 y3 y4 y5 y6 y7 y8
 have hbw:g<wz.heap.size:=by omega
 change Hid (∀ W hb,Calls _ _ #[_,.agg (aO opa lita heada namea hia loa Aa argsa.length capa)] W _) at hX
 change Hid (∀ W hb,Calls _ _ #[_,.agg (aO opb litb headb nameb hib lob Ab argsb.length capb)] W _) at hY
 change Hid (∀ W hb s t hs ht,Calls _ _ #[.agg (aO opa lita heada namea hia loa Aa argsa.length capa),.agg (aO opb litb headb nameb hib lob Ab argsb.length capb),_,_] W _) at hJ
 clear hcell hcell' hr hr' hsa' hsb' hel hel' ih ih2 hSz hPz
 replace hX:=aa (show ∀ W,Below wz.heap.size wz W→Calls prog _ #[_,.agg (aO opa lita heada namea hia loa Aa argsa.length capa)] W fun e w'=>e=.returned (.agg #[.int .i64 sw,.bool sr,.bool sf])∧Below wz.heap.size wz w'∧Below W.heap.size W w' from fun W hb=>(hX.out W hb).mono fun e w' h=>⟨h.1.trans (by rw [hra];rfl),hb.trans (h.2.mono hb.size),h.2⟩)
 clear hY hJ
 have hq:(op==14 ||op==15)=true:=by rcases hop with rfl|rfl<;>rfl
 rcases hop with rfl|rfl
 all_goals
  go_enter func29,ntmps29
  go_upto_region 3 with fail
  go_cut [5] (fun sp wx=>∃ g,sp=.pointer (some ⟨g,0,none⟩)∧Hid (bZ wz wx g sw sr sf))
  case first=>
   refine aN 5 (w2:=wz.drew.alloc (.cells #[.int .i64 0,.bool false,.bool false] 75)) (vf:=.pointer (some ⟨wz.heap.size,0,none⟩)) (by kernel_rfl) (by kernel_rfl) rfl (fun _=>rfl) (fun _=>by go_simp) ?_
   simp only [BE,Bz]
   repeat (refine bL (fun K hK=> ?_);go_simp;refine hK _ ?_;clear hK K)
   refine cm ⟨?_,?_⟩
   ·go_wp2_with (go_at_call 29;refine (hX.out _ (by exact (Bi _ _).drew)).mono ?_;rintro e w3 ⟨rfl,hb3,hb4⟩)
    go_meet
    exact ⟨_,rfl,aa (bZ.new hb3 _ _ _)⟩
   ·go_wp2_with (go_at_call 29;refine (hX.out _ (by exact (Bi _ _).drew.alloc (Bm _) _)).mono ?_;rintro e w3 ⟨rfl,hb3,hb4⟩;have kb4:=cM hb4)
    go_meet
    exact ⟨_,rfl,aa (bZ.set rfl hb3 hb4 _ _ _)⟩
  case rest=>
   obtain ⟨gs,rfl,hTs⟩:=hcut
   obtain ⟨wd,rfl⟩:∃ wd:World,wd=wc:=⟨_,rfl⟩
   obtain ⟨hbwd,gzs,gls,s0,s1,s2⟩:=hTs.out
   have kwd:=ab hbwd
   have qwd1:=Bg hl1 hbwd.size
   have qwd2:=Bg hl2 hbwd.size
   have qwd3:=Bg hl3 hbwd.size
   clear hX
   cases sr with
   |true=>
    go_wp2_with (go_at_call 35;refine (ff _ _ _).mono ?_;rintro e w5 ⟨rfl,hb5⟩)
    exact ⟨rfl,rfl,hw.out.trans ((hbwd.trans (hb5.mono hbwd.size)).mono (by omega))⟩
   |false=>
    cases sf with
    |true=>
     go_wp2_with (go_at_call 35;refine (fg _ _).mono ?_;rintro e w5 ⟨rfl,hb5⟩)
     exact ⟨rfl,rfl,hw.out.trans ((hbwd.trans (hb5.mono hbwd.size)).mono (by omega))⟩
    |false=>
     go_wp2_with (go_at_call 35;refine (dg _ _).mono ?_;rintro e w5 ⟨rfl,hb5⟩;have kb5:=ab (hbwd.trans (hb5.mono hbwd.size)))
     have hbE:=hbwd.trans (hb5.mono hbwd.size)
     have k0:=(hbE.cell (p:=⟨w.heap.size+1+1,0,none⟩) hl3).trans z0
     have k1:=(hbE.cell (p:=⟨w.heap.size+1+1,1,none⟩) hl3).trans z1
     have k2:=(hbE.cell (p:=⟨w.heap.size+1+1,2,none⟩) hl3).trans z2
     refine bodyPost_ret (v:=.agg #[.int .i64 sw,.bool false,.bool false]) (by simp [results,results29,go_sem,k0,k1,k2]) rfl ⟨rfl,?_⟩
     exact ad (hw.out.trans (hbE.mono (by omega))) (by omega) _ _ _
end
section
attribute [local go_sem] fZ eF ev
theorem uS (A1 A2 A3 A4 A5 A6 A7:Option Addr) (p:Pg) (c1 c2 c3 c4 c5 c6 c7:Nat) (act:Int) (B:Nat) (op:Int) (lit:Lt) (head name:ByteArray) (hi lo:Int) (a b:Ex) (l:List Ex) (n7:Int) (sw:Int) (sr sf:Bool) (hra:bI p act a=.ok ⟨sw,sr,sf⟩) (hrb:bI p act b=.error n7) (n14:¬op=14) (n15:¬op=15) (ih:gN A1 A2 A3 A4 A5 A6 A7 p c1 c2 c3 c4 c5 c6 c7 act B a) (ih2:gN A1 A2 A3 A4 A5 A6 A7 p c1 c2 c3 c4 c5 c6 c7 act B b) (cs:List Value) (w:World) (hB:B≤w.heap.size) (hP:bu w B A1 A2 A3 A4 A5 A6 A7 p) (h:dL w B cs (.mk op lit head name hi lo (a::b::l))):
  Calls prog 29 #[.agg (dw p A1 A2 A3 A4 A5 A6 A7 c1 c2 c3 c4 c5 c6 c7 act),.agg cs.toArray] w fun r w'=>r=fB (.error n7)∧Below w.heap.size w w':=by
 unfold dw
 obtain ⟨A,cap,rfl,-,-,-,-,-,-,hs⟩:=RE.inv h
 have hl:=hs.len
 clear h
 have hm2:2≤(a::b::l).length:=by simp
 generalize hml:(a::b::l).length=m at hl hm2
 clear hml
 have hmz0:((m:Int)==0)=false:=beq_eq_false_iff_ne.2 (by omega)
 have hmz1:((m:Int)==1)=false:=beq_eq_false_iff_ne.2 (by omega)
 have hmi0:(0:Int)<(m:Int):=by omega
 have hmi1:(1:Int)<(m:Int):=by omega
 have hmn0:0<m:=by omega
 have hmn1:1<m:=by omega
 show Calls _ _ #[.agg #[.slice A1 p.headers.length c1,.slice A2 p.metas.length c2,.slice A3 p.states.length c3,.slice A4 p.actions.length c4,.slice A5 p.tables.length c5,.slice A6 p.control.length c6,.slice A7 p.emit.length c7,.int .i64 act],.agg #[.int .u8 op,.int .i64 lit.1,.int .u64 lit.2.1,.int .u64 lit.2.2,.string head,.string name,.int .i64 hi,.int .i64 lo,.slice A m cap]] _ _
 obtain ⟨wv,hwv,hsv,we,hwe,hse,wz,hwz,hsz,hw,cv,ce,cz,hfr,hl1,hl2,hl3⟩:=ql w (dw p A1 A2 A3 A4 A5 A6 A7 c1 c2 c3 c4 c5 c6 c7 act) 88 (aO op lit head name hi lo A m cap) 45 #[.int .i64 0,.bool false,.bool false] 75
 obtain ⟨v0,v1,v2,v3,v4,v5,v6,v7⟩:=fs cv
 obtain ⟨e0,e1,e2,e3,e4,e5,e6,e7,e8⟩:=bU ce
 obtain ⟨z0,z1,z2⟩:=bF cz
 clear cv ce cz
 have hBz:B≤wz.heap.size:=by omega
 have hPz:=hP.below (hw.out.mono hB)
 have hSz:=hs.below ai (hw.out.mono hB)
 clear hP hs
 obtain ⟨g,o,ecs,hA,hbb,hel,hcell,hr⟩:=hSz.2 0 a rfl
 obtain ⟨g',o',ecs',hA',hbb',hel',hcell',hr'⟩:=hSz.2 1 b rfl
 subst hA
 obtain ⟨rfl,rfl⟩:g=g'∧o=o':=by simpa using hA'
 have hX:=aa (fun (W:World) (hb:Below wz.heap.size wz W)=>ih ecs W (Bj hBz hb.size) (hPz.below (hb.mono hBz)) (ai.keep hr fun q hq=>(hb.mono hBz).cell hq))
 have hY:=aa (fun (W:World) (hb:Below wz.heap.size wz W)=>ih2 ecs' W (Bj hBz hb.size) (hPz.below (hb.mono hBz)) (ai.keep hr' fun q hq=>(hb.mono hBz).cell hq))
 have hJ:=aa (fun (W:World) (hb:Below wz.heap.size wz W) (s t:Ty) (hs:cV s) (ht:cV t)=>dA a b ecs ecs' s t B W (Bj hBz hb.size) (ai.keep hr fun q hq=>(hb.mono hBz).cell hq) (ai.keep hr' fun q hq=>(hb.mono hBz).cell hq) hs ht)
 obtain ⟨opa,lita,heada,namea,hia,loa,argsa⟩:=a
 obtain ⟨Aa,capa,rfl,-,-,-,-,-,-,hsa'⟩:=RE.inv hr
 have la:=hsa'.len
 obtain ⟨opb,litb,headb,nameb,hib,lob,argsb⟩:=b
 obtain ⟨Ab,capb,rfl,-,-,-,-,-,-,hsb'⟩:=RE.inv hr'
 have lb:=hsb'.len
 obtain ⟨x0,x1,x2,x3,x4,x5,x6,x7,x8⟩:=cl hcell
 obtain ⟨y0,y1,y2,y3,y4,y5,y6,y7,y8⟩:=cl hcell'
 simp only [Nat.zero_mul,Nat.add_zero,Nat.one_mul] at x0 x1 x2 x3 x4 x5 x6 x7 x8 y0 y1 y2 y3 y4 y5 y6 y7 y8
 have hbw:g<wz.heap.size:=by omega
 change Hid (∀ W hb,Calls _ _ #[_,.agg (aO opa lita heada namea hia loa Aa argsa.length capa)] W _) at hX
 change Hid (∀ W hb,Calls _ _ #[_,.agg (aO opb litb headb nameb hib lob Ab argsb.length capb)] W _) at hY
 change Hid (∀ W hb s t hs ht,Calls _ _ #[.agg (aO opa lita heada namea hia loa Aa argsa.length capa),.agg (aO opb litb headb nameb hib lob Ab argsb.length capb),_,_] W _) at hJ
 clear hcell hcell' hr hr' hsa' hsb' hel hel' ih ih2 hSz hPz
 have i14:(op==14)=false:=beq_eq_false_iff_ne.2 n14
 have i15:(op==15)=false:=beq_eq_false_iff_ne.2 n15
 replace hX:=aa (show ∀ W,Below wz.heap.size wz W→Calls prog _ #[_,.agg (aO opa lita heada namea hia loa Aa argsa.length capa)] W fun e w'=>e=.returned (.agg #[.int .i64 sw,.bool sr,.bool sf])∧Below wz.heap.size wz w'∧Below W.heap.size W w' from fun W hb=>(hX.out W hb).mono fun e w' h=>⟨h.1.trans (by rw [hra];rfl),hb.trans (h.2.mono hb.size),h.2⟩)
 clear hJ
 go_enter func29,ntmps29
 go_upto_region 3 with fail
 go_cut [5] (fun sp wx=>∃ g,sp=.pointer (some ⟨g,0,none⟩)∧Hid (bZ wz wx g sw sr sf))
 case first=>
  refine aN 5 (w2:=wz.drew.alloc (.cells #[.int .i64 0,.bool false,.bool false] 75)) (vf:=.pointer (some ⟨wz.heap.size,0,none⟩)) (by kernel_rfl) (by kernel_rfl) rfl (fun _=>rfl) (fun _=>by go_simp) ?_
  simp only [BE,Bz]
  repeat (refine bL (fun K hK=> ?_);go_simp;refine hK _ ?_;clear hK K)
  refine cm ⟨?_,?_⟩
  ·go_wp2_with (go_at_call 29;refine (hX.out _ (by exact (Bi _ _).drew)).mono ?_;rintro e w3 ⟨rfl,hb3,hb4⟩)
   go_meet
   exact ⟨_,rfl,aa (bZ.new hb3 _ _ _)⟩
  ·go_wp2_with (go_at_call 29;refine (hX.out _ (by exact (Bi _ _).drew.alloc (Bm _) _)).mono ?_;rintro e w3 ⟨rfl,hb3,hb4⟩;have kb4:=cM hb4)
   go_meet
   exact ⟨_,rfl,aa (bZ.set rfl hb3 hb4 _ _ _)⟩
 case rest=>
  obtain ⟨gs,rfl,hTs⟩:=hcut
  obtain ⟨wd,rfl⟩:∃ wd:World,wd=wc:=⟨_,rfl⟩
  obtain ⟨hbwd,gzs,gls,s0,s1,s2⟩:=hTs.out
  have kwd:=ab hbwd
  have qwd1:=Bg hl1 hbwd.size
  have qwd2:=Bg hl2 hbwd.size
  have qwd3:=Bg hl3 hbwd.size
  have qwd4:=Bg hbw hbwd.size
  clear hX
  replace hY:=aa (show ∀ W,Below wd.heap.size wd W→Calls prog _ #[_,.agg (aO opb litb headb nameb hib lob Ab argsb.length capb)] W fun e w'=>e=ji n7∧Below wd.heap.size wd w'∧Below W.heap.size W w' from fun W hb=>(hY.out W (hbwd.trans (hb.mono hbwd.size))).mono fun e w' h=>⟨h.1.trans (by rw [hrb];rfl),hb.trans (h.2.mono hb.size),h.2⟩)
  go_wp2_with fail
  refine aN 5 (w2:=wd.drew.alloc (.cells #[.int .i64 0,.bool false,.bool false] 75)) (vf:=.pointer (some ⟨wd.heap.size,0,none⟩)) (by kernel_rfl) (by kernel_rfl) rfl (fun _=>rfl) (fun _=>by go_simp) ?_
  simp only [BE,Bz]
  repeat (refine bL (fun K hK=> ?_);go_simp;refine hK _ ?_;clear hK K)
  refine cm ⟨?_,?_⟩
  all_goals
   go_wp2_with (go_at_call 29;refine (hY.out _ (by first|exact (Bi _ _).drew|exact (Bi _ _).drew.alloc (Bm _) _)).mono ?_;rintro e w3 ⟨rfl,hb3,hb4⟩)
   exact ⟨rfl,rfl,hw.out.trans ((hbwd.trans (hb3.mono hbwd.size)).mono (by omega))⟩
theorem nG (A1 A2 A3 A4 A5 A6 A7:Option Addr) (p:Pg) (c1 c2 c3 c4 c5 c6 c7:Nat) (act:Int) (B:Nat) (op:Int) (lit:Lt) (head name:ByteArray) (hi lo:Int) (a b:Ex) (l:List Ex) (sw:Int) (sr sf:Bool) (hra:bI p act a=.ok ⟨sw,sr,sf⟩) (tw:Int) (tr tf:Bool) (hrb:bI p act b=.ok ⟨tw,tr,tf⟩) (hsk:cV ⟨sw,sr,sf⟩) (htk:cV ⟨tw,tr,tf⟩) (n14:¬op=14) (n15:¬op=15) (n11:¬op=11) (h25:25≤op) (ih:gN A1 A2 A3 A4 A5 A6 A7 p c1 c2 c3 c4 c5 c6 c7 act B a) (ih2:gN A1 A2 A3 A4 A5 A6 A7 p c1 c2 c3 c4 c5 c6 c7 act B b) (cs:List Value) (w:World) (hB:B≤w.heap.size) (hP:bu w B A1 A2 A3 A4 A5 A6 A7 p) (h:dL w B cs (.mk op lit head name hi lo (a::b::l))):
  Calls prog 29 #[.agg (dw p A1 A2 A3 A4 A5 A6 A7 c1 c2 c3 c4 c5 c6 c7 act),.agg cs.toArray] w fun r w'=>r=fB (cI op a b ⟨sw,sr,sf⟩ ⟨tw,tr,tf⟩)∧Below w.heap.size w w':=by
 unfold dw
 obtain ⟨A,cap,rfl,-,-,-,-,-,-,hs⟩:=RE.inv h
 have hl:=hs.len
 clear h
 have hm2:2≤(a::b::l).length:=by simp
 generalize hml:(a::b::l).length=m at hl hm2
 clear hml
 have hmz0:((m:Int)==0)=false:=beq_eq_false_iff_ne.2 (by omega)
 have hmz1:((m:Int)==1)=false:=beq_eq_false_iff_ne.2 (by omega)
 have hmi0:(0:Int)<(m:Int):=by omega
 have hmi1:(1:Int)<(m:Int):=by omega
 have hmn0:0<m:=by omega
 have hmn1:1<m:=by omega
 show Calls _ _ #[.agg #[.slice A1 p.headers.length c1,.slice A2 p.metas.length c2,.slice A3 p.states.length c3,.slice A4 p.actions.length c4,.slice A5 p.tables.length c5,.slice A6 p.control.length c6,.slice A7 p.emit.length c7,.int .i64 act],.agg #[.int .u8 op,.int .i64 lit.1,.int .u64 lit.2.1,.int .u64 lit.2.2,.string head,.string name,.int .i64 hi,.int .i64 lo,.slice A m cap]] _ _
 obtain ⟨wv,hwv,hsv,we,hwe,hse,wz,hwz,hsz,hw,cv,ce,cz,hfr,hl1,hl2,hl3⟩:=ql w (dw p A1 A2 A3 A4 A5 A6 A7 c1 c2 c3 c4 c5 c6 c7 act) 88 (aO op lit head name hi lo A m cap) 45 #[.int .i64 0,.bool false,.bool false] 75
 obtain ⟨v0,v1,v2,v3,v4,v5,v6,v7⟩:=fs cv
 obtain ⟨e0,e1,e2,e3,e4,e5,e6,e7,e8⟩:=bU ce
 obtain ⟨z0,z1,z2⟩:=bF cz
 clear cv ce cz
 have hBz:B≤wz.heap.size:=by omega
 have hPz:=hP.below (hw.out.mono hB)
 have hSz:=hs.below ai (hw.out.mono hB)
 clear hP hs
 obtain ⟨g,o,ecs,hA,hbb,hel,hcell,hr⟩:=hSz.2 0 a rfl
 obtain ⟨g',o',ecs',hA',hbb',hel',hcell',hr'⟩:=hSz.2 1 b rfl
 subst hA
 obtain ⟨rfl,rfl⟩:g=g'∧o=o':=by simpa using hA'
 have hX:=aa (fun (W:World) (hb:Below wz.heap.size wz W)=>ih ecs W (Bj hBz hb.size) (hPz.below (hb.mono hBz)) (ai.keep hr fun q hq=>(hb.mono hBz).cell hq))
 have hY:=aa (fun (W:World) (hb:Below wz.heap.size wz W)=>ih2 ecs' W (Bj hBz hb.size) (hPz.below (hb.mono hBz)) (ai.keep hr' fun q hq=>(hb.mono hBz).cell hq))
 have hJ:=aa (fun (W:World) (hb:Below wz.heap.size wz W) (s t:Ty) (hs:cV s) (ht:cV t)=>dA a b ecs ecs' s t B W (Bj hBz hb.size) (ai.keep hr fun q hq=>(hb.mono hBz).cell hq) (ai.keep hr' fun q hq=>(hb.mono hBz).cell hq) hs ht)
 obtain ⟨opa,lita,heada,namea,hia,loa,argsa⟩:=a
 obtain ⟨Aa,capa,rfl,-,-,-,-,-,-,hsa'⟩:=RE.inv hr
 have la:=hsa'.len
 obtain ⟨opb,litb,headb,nameb,hib,lob,argsb⟩:=b
 obtain ⟨Ab,capb,rfl,-,-,-,-,-,-,hsb'⟩:=RE.inv hr'
 have lb:=hsb'.len
 obtain ⟨x0,x1,x2,x3,x4,x5,x6,x7,x8⟩:=cl hcell
 obtain ⟨y0,y1,y2,y3,y4,y5,y6,y7,y8⟩:=cl hcell'
 simp only [Nat.zero_mul,Nat.add_zero,Nat.one_mul] at x0 x1 x2 x3 x4 x5 x6 x7 x8 y0 y1 y2 y3 y4 y5 y6 y7 y8
 have hbw:g<wz.heap.size:=by omega
 change Hid (∀ W hb,Calls _ _ #[_,.agg (aO opa lita heada namea hia loa Aa argsa.length capa)] W _) at hX
 change Hid (∀ W hb,Calls _ _ #[_,.agg (aO opb litb headb nameb hib lob Ab argsb.length capb)] W _) at hY
 change Hid (∀ W hb s t hs ht,Calls _ _ #[.agg (aO opa lita heada namea hia loa Aa argsa.length capa),.agg (aO opb litb headb nameb hib lob Ab argsb.length capb),_,_] W _) at hJ
 clear hcell hcell' hr hr' hsa' hsb' hel hel' ih ih2 hSz hPz
 have hv:=aa (show cI op (.mk opa lita heada namea hia loa argsa) (.mk opb litb headb nameb hib lob argsb) ⟨sw,sr,sf⟩ ⟨tw,tr,tf⟩=if sr&&tr then .ok ⟨sw,sr,sf⟩ else .error 9 from by unfold cI;rw [if_neg n11,if_pos h25])
 generalize cI op _ _ _ _=r at hv
 have i14:(op==14)=false:=beq_eq_false_iff_ne.2 n14
 have i15:(op==15)=false:=beq_eq_false_iff_ne.2 n15
 have i11:(op==11)=false:=beq_eq_false_iff_ne.2 n11
 replace hX:=aa (show ∀ W,Below wz.heap.size wz W→Calls prog _ #[_,.agg (aO opa lita heada namea hia loa Aa argsa.length capa)] W fun e w'=>e=.returned (.agg #[.int .i64 sw,.bool sr,.bool sf])∧Below wz.heap.size wz w'∧Below W.heap.size W w' from fun W hb=>(hX.out W hb).mono fun e w' h=>⟨h.1.trans (by rw [hra];rfl),hb.trans (h.2.mono hb.size),h.2⟩)
 clear hJ
 go_enter func29,ntmps29
 go_upto_region 3 with fail
 go_cut [5] (fun sp wx=>∃ g,sp=.pointer (some ⟨g,0,none⟩)∧Hid (bZ wz wx g sw sr sf))
 case first=>
  refine aN 5 (w2:=wz.drew.alloc (.cells #[.int .i64 0,.bool false,.bool false] 75)) (vf:=.pointer (some ⟨wz.heap.size,0,none⟩)) (by kernel_rfl) (by kernel_rfl) rfl (fun _=>rfl) (fun _=>by go_simp) ?_
  simp only [BE,Bz]
  repeat (refine bL (fun K hK=> ?_);go_simp;refine hK _ ?_;clear hK K)
  refine cm ⟨?_,?_⟩
  ·go_wp2_with (go_at_call 29;refine (hX.out _ (by exact (Bi _ _).drew)).mono ?_;rintro e w3 ⟨rfl,hb3,hb4⟩)
   go_meet
   exact ⟨_,rfl,aa (bZ.new hb3 _ _ _)⟩
  ·go_wp2_with (go_at_call 29;refine (hX.out _ (by exact (Bi _ _).drew.alloc (Bm _) _)).mono ?_;rintro e w3 ⟨rfl,hb3,hb4⟩;have kb4:=cM hb4)
   go_meet
   exact ⟨_,rfl,aa (bZ.set rfl hb3 hb4 _ _ _)⟩
 case rest=>
  obtain ⟨gs,rfl,hTs⟩:=hcut
  obtain ⟨wd,rfl⟩:∃ wd:World,wd=wc:=⟨_,rfl⟩
  obtain ⟨hbwd,gzs,gls,s0,s1,s2⟩:=hTs.out
  have kwd:=ab hbwd
  have qwd1:=Bg hl1 hbwd.size
  have qwd2:=Bg hl2 hbwd.size
  have qwd3:=Bg hl3 hbwd.size
  have qwd4:=Bg hbw hbwd.size
  clear hX
  replace hY:=aa (show ∀ W,Below wd.heap.size wd W→Calls prog _ #[_,.agg (aO opb litb headb nameb hib lob Ab argsb.length capb)] W fun e w'=>e=.returned (.agg #[.int .i64 tw,.bool tr,.bool tf])∧Below wd.heap.size wd w'∧Below W.heap.size W w' from fun W hb=>(hY.out W (hbwd.trans (hb.mono hbwd.size))).mono fun e w' h=>⟨h.1.trans (by rw [hrb];rfl),hb.trans (h.2.mono hb.size),h.2⟩)
  go_upto_region 8 with fail
  go_cut [6] (fun sp wx=>∃ g,sp=.pointer (some ⟨g,0,none⟩)∧Hid (bZ wd wx g tw tr tf))
  case first=>
   refine aN 5 (w2:=wd.drew.alloc (.cells #[.int .i64 0,.bool false,.bool false] 75)) (vf:=.pointer (some ⟨wd.heap.size,0,none⟩)) (by kernel_rfl) (by kernel_rfl) rfl (fun _=>rfl) (fun _=>by go_simp) ?_
   simp only [BE,Bz]
   repeat (refine bL (fun K hK=> ?_);go_simp;refine hK _ ?_;clear hK K)
   refine cm ⟨?_,?_⟩
   ·go_wp2_with (go_at_call 29;refine (hY.out _ (by exact (Bi _ _).drew)).mono ?_;rintro e w3 ⟨rfl,hb3,hb4⟩)
    go_meet
    exact ⟨_,rfl,aa (bZ.new hb3 _ _ _)⟩
   ·go_wp2_with (go_at_call 29;refine (hY.out _ (by exact (Bi _ _).drew.alloc (Bm _) _)).mono ?_;rintro e w3 ⟨rfl,hb3,hb4⟩;have kb4:=cM hb4)
    go_meet
    exact ⟨_,rfl,aa (bZ.set rfl hb3 hb4 _ _ _)⟩
  case rest=>
   obtain ⟨gt,rfl,hTt⟩:=hcut
   obtain ⟨wt,rfl⟩:∃ wt:World,wt=wc:=⟨_,rfl⟩
   obtain ⟨hbwt,gzt,glt,t0,t1,t2⟩:=hTt.out
   have hbE:=hbwd.trans (hbwt.mono hbwd.size)
   have kwt:=ab hbE
   have qwt1:=Bg hl1 hbE.size
   have qwt2:=Bg hl2 hbE.size
   have qwt3:=Bg hl3 hbE.size
   have qwt4:=Bg hbw hbE.size
   have qwt5:=Bg gls hbwt.size
   have s0':=(hbwt.cell (p:=⟨gs,0,none⟩) gls).trans s0
   have s1':=(hbwt.cell (p:=⟨gs,1,none⟩) gls).trans s1
   have s2':=(hbwt.cell (p:=⟨gs,2,none⟩) gls).trans s2
   clear hY s0 s1 s2 kwd qwd1 qwd2 qwd3 qwd4
   cases sr
   rotate_right
   focus
    cases tr
    rotate_right
    focus
     go_wp2_with (go_at_call 27;refine (aP _ _).mono ?_;rintro e w' ⟨rfl,rfl⟩)
     have hbF:=hbE
     have k0:=(hbF.cell (p:=⟨w.heap.size+1+1,0,none⟩) hl3).trans z0
     have k1:=(hbF.cell (p:=⟨w.heap.size+1+1,1,none⟩) hl3).trans z1
     have k2:=(hbF.cell (p:=⟨w.heap.size+1+1,2,none⟩) hl3).trans z2
     refine bodyPost_ret (v:=.agg #[.int .i64 sw,.bool true,.bool sf]) (by simp [results,results29,go_sem,k0,k1,k2]) rfl ⟨by rw [hv.out];rfl,?_⟩
     exact ad (hw.out.trans (hbF.mono (by omega))) (by omega) _ _ _
   all_goals
    go_wp2_with (go_at_call 27;refine (bJ _ _).mono ?_;rintro e w' ⟨rfl,rfl⟩)
    exact ⟨rfl,by rw [hv.out];rfl,hw.out.trans (hbE.mono (by omega))⟩
end
end Go.Proofs.YtbbdhknagofghaaGreat

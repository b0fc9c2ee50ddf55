import Derived.Test.YtbbdhknagofghaaGreatTcp35
import Derived.Deep.RegionHeld3
set_option linter.all false
set_option maxHeartbeats 8000000
set_option maxRecDepth 100000
open Go.Proofs.Tryz
namespace Go.Proofs.YtbbdhknagofghaaGreat
open _root_.Nat renaming lt_of_lt_of_le→Bg, le_trans→Bj, le_refl→Bm
open _root_.Go.RowKit.Below renaming refl→Bi
open _root_.Bool renaming and_eq_true→Bn
open _root_.List renaming length_cons→By, length_singleton→BG, length_nil→BV
open Go.RowKit
def vQ (A1 A2 A3 A4 A5 A6 A7:Option Addr) (p:Pg) (c1 c2 c3 c4 c5 c6 c7:Nat) (act:Int) (B:Nat) (e:Ex):Prop:=∀ (cs:List Value) (w:World),B≤w.heap.size→bu w B A1 A2 A3 A4 A5 A6 A7 p→dL w B cs e→
  Calls prog 111 #[.agg #[.slice A1 p.headers.length c1,.slice A2 p.metas.length c2,.slice A3 p.states.length c3,.slice A4 p.actions.length c4,.slice A5 p.tables.length c5,.slice A6 p.control.length c6,.slice A7 p.emit.length c7],.int .i64 act,.agg cs.toArray] w fun z w'=>z=.returned (.tuple #[.agg (gw (db (bI p act e)).1),.int .i64 (db (bI p act e)).2])∧Below w.heap.size w w'
theorem bH {n:Nat} {wz W:World} (h:Below n wz W):Below n wz W∧∀ b o,b<n→W.cell? ⟨b,o,none⟩=wz.cell? ⟨b,o,none⟩:=⟨h,(ab h).1⟩
theorem xU {op:Int} {lit:Lt} {head name:ByteArray} {hi lo:Int} {a b:Ex} {l:List Ex} (h:aT (.mk op lit head name hi lo (a::b::l))=true):11≤op∧op≤26:=by
 simp only [aT,Bn] at h
 have h1:=h.1.1
 unfold fp at h1
 cases hf:bj op with
 |none=>rw [hf] at h1;cases h1
 |some x=>
  rw [hf] at h1
  obtain ⟨⟨b1,b2,b3,b4⟩,n⟩:=x
  simp only [Bn,decide_eq_true_eq] at h1
  have hn:=h1.1.1.1.1
  simp only [By] at hn
  unfold bj at hf
  repeat' split at hf
  all_goals first
   |(cases hf;done)
   |(simp only [Option.some.injEq,Prod.mk.injEq] at hf;omega)
theorem xV (A1 A2 A3 A4 A5 A6 A7:Option Addr) (p:Pg) (c1 c2 c3 c4 c5 c6 c7:Nat) (act:Int) (B:Nat) (hm:dz p=true) (op:Int) (lit:Lt) (head name:ByteArray) (hi lo:Int) (he:aT (.mk op lit head name hi lo [])=true):vQ A1 A2 A3 A4 A5 A6 A7 p c1 c2 c3 c4 c5 c6 c7 act B (.mk op lit head name hi lo []):=by
 intro cs w hB hP h
 obtain ⟨A,cap,rfl,-,-,-,-,-,-,hs⟩:=RE.inv h
 have hl:=hs.len
 clear h
 show Calls _ _ #[.agg #[.slice A1 p.headers.length c1,.slice A2 p.metas.length c2,.slice A3 p.states.length c3,.slice A4 p.actions.length c4,.slice A5 p.tables.length c5,.slice A6 p.control.length c6,.slice A7 p.emit.length c7],.int .i64 act,.agg #[.int .u8 op,.int .i64 lit.1,.int .u64 lit.2.1,.int .u64 lit.2.2,.string head,.string name,.int .i64 hi,.int .i64 lo,.slice A ([]:List Ex).length cap]] _ _
 obtain ⟨wu,hwu,hsu,we,hwe,hse,wz,hwz,hsz,hw,cu,ce,cz,hqz,hl1,hl2,hl3⟩:=ql w (aq p A1 A2 A3 A4 A5 A6 A7 c1 c2 c3 c4 c5 c6 c7) 30 (aO op lit head name hi lo A ([]:List Ex).length cap) 45 #[.int .i64 0,.bool false,.bool false] 75
 obtain ⟨u0,u1,u2,u3,u4,u5,u6⟩:=aF cu
 obtain ⟨e0,e1,e2,e3,e4,e5,e6,e7,e8⟩:=bU ce
 obtain ⟨z0,z1,z2⟩:=bF cz
 clear cu ce cz
 have hBz:B≤wz.heap.size:=by omega
 have hPz:=aa (hP.below (hw.out.mono hB))
 have hSz:=aa (hs.below ai (hw.out.mono hB))
 clear hP hs
 have hr:bI p act (.mk op lit head name hi lo [])=dP p act op lit head name:=by simp only [bI]
 have hX:=aa (tz A1 A2 A3 A4 A5 A6 A7 p c1 c2 c3 c4 c5 c6 c7 act op lit head name hi lo A ([]:List Ex).length cap B wz hBz hPz.out)
 rw [hr]
 clear hr hSz
 generalize db (dP p act op lit head name)=R at hX ⊢
 obtain ⟨⟨tw,tr,tf⟩,er⟩:=R
 simp only [gw,BV] at*
 go_enter func111,ntmps111
 go_wp2_with (go_at_call 179;refine hX.out.mono ?_;rintro e w1 ⟨rfl,hb1⟩;have kb1:=ab hb1;have q3:=Bg hl3 hb1.size)
 have k0:=(hb1.cell (p:=⟨w.heap.size+1+1,0,none⟩) hl3).trans z0
 have k1:=(hb1.cell (p:=⟨w.heap.size+1+1,1,none⟩) hl3).trans z1
 have k2:=(hb1.cell (p:=⟨w.heap.size+1+1,2,none⟩) hl3).trans z2
 refine bodyPost_ret (v:=.tuple #[.agg #[.int .i64 tw,.bool tr,.bool tf],.int .i64 er]) (by simp [results,results111,go_sem,k0,k1,k2]) rfl ⟨rfl,?_⟩
 exact ad (hw.out.trans (hb1.mono (by omega))) (by omega) _ _ _
theorem zu (A1 A2 A3 A4 A5 A6 A7:Option Addr) (p:Pg) (c1 c2 c3 c4 c5 c6 c7:Nat) (act:Int) (B:Nat) (hm:dz p=true) (op:Int) (lit:Lt) (head name:ByteArray) (hi lo:Int) (a:Ex) (he:aT (.mk op lit head name hi lo [a])=true) (ih:vQ A1 A2 A3 A4 A5 A6 A7 p c1 c2 c3 c4 c5 c6 c7 act B a):vQ A1 A2 A3 A4 A5 A6 A7 p c1 c2 c3 c4 c5 c6 c7 act B (.mk op lit head name hi lo [a]):=by
 intro cs w hB hP h
 obtain ⟨A,cap,rfl,-,-,-,-,-,-,hs⟩:=RE.inv h
 have hl:=hs.len
 clear h
 show Calls _ _ #[.agg #[.slice A1 p.headers.length c1,.slice A2 p.metas.length c2,.slice A3 p.states.length c3,.slice A4 p.actions.length c4,.slice A5 p.tables.length c5,.slice A6 p.control.length c6,.slice A7 p.emit.length c7],.int .i64 act,.agg #[.int .u8 op,.int .i64 lit.1,.int .u64 lit.2.1,.int .u64 lit.2.2,.string head,.string name,.int .i64 hi,.int .i64 lo,.slice A [a].length cap]] _ _
 obtain ⟨wu,hwu,hsu,we,hwe,hse,wz,hwz,hsz,hw,cu,ce,cz,hqz,hl1,hl2,hl3⟩:=ql w (aq p A1 A2 A3 A4 A5 A6 A7 c1 c2 c3 c4 c5 c6 c7) 30 (aO op lit head name hi lo A [a].length cap) 45 #[.int .i64 0,.bool false,.bool false] 75
 obtain ⟨u0,u1,u2,u3,u4,u5,u6⟩:=aF cu
 obtain ⟨e0,e1,e2,e3,e4,e5,e6,e7,e8⟩:=bU ce
 obtain ⟨z0,z1,z2⟩:=bF cz
 clear cu ce cz
 have hBz:B≤wz.heap.size:=by omega
 have hPz:=aa (hP.below (hw.out.mono hB))
 have hSz:=aa (hs.below ai (hw.out.mono hB))
 clear hP hs
 obtain ⟨g,o,eca,hAa,hbba,hela,hcella,hra⟩:=hSz.out.2 0 a rfl
 subst hAa
 have hXa:=aa (fun (W:World) (hb:Below wz.heap.size wz W)=>ih eca W (Bj hBz hb.size) (hPz.out.below (hb.mono hBz)) (ai.keep hra fun q hq=>(hb.mono hBz).cell hq))
 have hr:bI p act (.mk op lit head name hi lo [a])=(match bI p act a with| .error n=>.error n| .ok s=>fX op hi lo s):=by simp only [bI];cases bI p act a<;>rfl
 have hform:op=10→0≤lo∧lo≤hi∧hi<128:=by
  simp only [aT,Bn] at he
  exact (mo he.1.1).2
 rw [hr]
 clear hr ih he
 have hga:g<wz.heap.size:=by omega
 generalize hRa:bI p act a=ra at*
 obtain ⟨opa,lita,heada,namea,hia,loa,argsa⟩:=a
 obtain ⟨Aa,capa,rfl,-,-,-,-,-,-,hsa'⟩:=RE.inv hra
 have la:=hsa'.len
 obtain ⟨xa0,xa1,xa2,xa3,xa4,xa5,xa6,xa7,xa8⟩:=cl hcella
 simp only [Nat.zero_mul,Nat.one_mul,Nat.add_zero] at xa0 xa1 xa2 xa3 xa4 xa5 xa6 xa7 xa8
 clear hcella hra hsa' hela
 generalize hEa:db ra=Ra at hXa
 obtain ⟨⟨aw,ar,af⟩,an⟩:=Ra
 replace hXa:Hid (∀ W,Below wz.heap.size wz W→Calls prog 111 #[.agg (aq p A1 A2 A3 A4 A5 A6 A7 c1 c2 c3 c4 c5 c6 c7),.int .i64 act,.agg (aO opa lita heada namea hia loa Aa argsa.length capa)] W fun e w'=>e=.returned (.tuple #[.agg #[.int .i64 aw,.bool ar,.bool af],.int .i64 an])∧Below W.heap.size W w'):=hXa
 replace hXa:=aa (fun (W:World) (hb:Below wz.heap.size wz W)=>(hXa.out W hb).mono fun e w' h=>(⟨h.1,hb.trans (h.2.mono hb.size),h.2⟩:_∧Below wz.heap.size wz w'∧Below W.heap.size W w'))
 simp only [BG] at*
 go_enter func111,ntmps111
 go_upto_region 3 with fail
 go_cut [8,9] (fun sp er wx=>∃ g,sp=.pointer (some ⟨g,0,none⟩)∧er=.int .i64 an∧Hid (bZ wz wx g aw ar af))
 case first=>
  go_region_held3 (fun w'=>Below wz.heap.size wz w'∧∀ b o,b<wz.heap.size→w'.cell? ⟨b,o,none⟩=wz.cell? ⟨b,o,none⟩) (first|exact bH (Bi _ _).drew|exact bH ((Bi _ _).drew.alloc (Bm _) _)|exact bH hb3|exact bH (hb3.alloc hb3.size _)|exact bH (ad (hb3.alloc hb3.size _) hb3.size _ _ _)|exact bH (ad hb3 (Bm _) _ _ _)|exact bH (hb3.alloc hb3.size _))
   ((go_at_call 111;refine (hXa.out _ (by first|exact (Bi _ _).drew|exact (Bi _ _).drew.alloc (Bm _) _)).mono ?_;rintro e w3 ⟨rfl,hb3,hb4⟩;have kb4:=cM hb4))
  all_goals go_wp2
  all_goals go_meet
  all_goals first
   |exact ⟨_,rfl,rfl,aa (bZ.new hb3 _ _ _)⟩
   |exact ⟨_,rfl,rfl,aa (bZ.set rfl hb3 hb4 _ _ _)⟩
 case rest=>
  obtain ⟨ga,rfl,rfl,hT0⟩:=hcut
  obtain ⟨hbc,hgz,hgl,s0,s1,s2⟩:=hT0.out
  have kbc:=ab hbc
  have q1:=Bg hl1 hbc.size
  have q2:=Bg hl2 hbc.size
  have q3:=Bg hl3 hbc.size
  clear hXa
  cases ra with
  |error m=>
   simp only [db,Prod.mk.injEq,Ty.mk.injEq] at hEa
   obtain ⟨⟨rfl,rfl,rfl⟩,rfl⟩:=hEa
   have hmq:(m !=0)=true:=bne_iff_ne.2 (el act _ _ hRa)
   go_wp2
   have k0:=(hbc.cell (p:=⟨w.heap.size+1+1,0,none⟩) hl3).trans z0
   have k1:=(hbc.cell (p:=⟨w.heap.size+1+1,1,none⟩) hl3).trans z1
   have k2:=(hbc.cell (p:=⟨w.heap.size+1+1,2,none⟩) hl3).trans z2
   refine bodyPost_ret (v:=.tuple #[.agg #[.int .i64 0,.bool false,.bool false],.int .i64 m]) (by simp [results,results111,go_sem,k0,k1,k2]) rfl ⟨rfl,?_⟩
   exact ad (hw.out.trans (hbc.mono (by omega))) (by omega) _ _ _
  |ok t=>
   obtain ⟨tw,tr,tf⟩:=t
   simp only [db,Prod.mk.injEq,Ty.mk.injEq] at hEa
   obtain ⟨⟨rfl,rfl,rfl⟩,rfl⟩:=hEa
   have hG:=aa (pK op lit head name hi lo (some ⟨g,o,none⟩) 1 cap ⟨tw,tr,tf⟩ wc hform)
   simp only at hG
   generalize hRR:db (fX op hi lo ⟨tw,tr,tf⟩)=R at hG
   obtain ⟨⟨rw,rr,rf⟩,rn⟩:=R
   replace hRR:=aa hRR
   simp only [gw] at hG
   go_wp2_with (go_at_call 180;refine hG.out.mono ?_;rintro e w4 ⟨rfl,hb4⟩;have kb4:=ab (hbc.trans (hb4.mono hbc.size));have p3:=Bg q3 hb4.size)
   have hbE:=hbc.trans (hb4.mono hbc.size)
   have k0:=(hbE.cell (p:=⟨w.heap.size+1+1,0,none⟩) hl3).trans z0
   have k1:=(hbE.cell (p:=⟨w.heap.size+1+1,1,none⟩) hl3).trans z1
   have k2:=(hbE.cell (p:=⟨w.heap.size+1+1,2,none⟩) hl3).trans z2
   refine bodyPost_ret (v:=.tuple #[.agg #[.int .i64 rw,.bool rr,.bool rf],.int .i64 rn]) (by simp [results,results111,go_sem,k0,k1,k2]) rfl ⟨by show _=Ending.returned (.tuple #[.agg (gw (db (fX op hi lo ⟨tw,tr,tf⟩)).1),.int .i64 (db (fX op hi lo ⟨tw,tr,tf⟩)).2]);rw [hRR.out];rfl,?_⟩
   exact ad (hw.out.trans (hbE.mono (by omega))) (by omega) _ _ _
theorem xW (A1 A2 A3 A4 A5 A6 A7:Option Addr) (p:Pg) (c1 c2 c3 c4 c5 c6 c7:Nat) (act:Int) (B:Nat) (hm:dz p=true) (lit:Lt) (head name:ByteArray) (hi lo:Int) (a b:Ex) (l:List Ex) (he:aT (.mk 14 lit head name hi lo (a::b::l))=true) (iha:vQ A1 A2 A3 A4 A5 A6 A7 p c1 c2 c3 c4 c5 c6 c7 act B a) (ihb:vQ A1 A2 A3 A4 A5 A6 A7 p c1 c2 c3 c4 c5 c6 c7 act B b):vQ A1 A2 A3 A4 A5 A6 A7 p c1 c2 c3 c4 c5 c6 c7 act B (.mk 14 lit head name hi lo (a::b::l)):=by
 intro cs w hB hP h
 obtain ⟨A,cap,rfl,-,-,-,-,-,-,hs⟩:=RE.inv h
 have hl:=hs.len
 clear h
 show Calls _ _ #[.agg #[.slice A1 p.headers.length c1,.slice A2 p.metas.length c2,.slice A3 p.states.length c3,.slice A4 p.actions.length c4,.slice A5 p.tables.length c5,.slice A6 p.control.length c6,.slice A7 p.emit.length c7],.int .i64 act,.agg #[.int .u8 14,.int .i64 lit.1,.int .u64 lit.2.1,.int .u64 lit.2.2,.string head,.string name,.int .i64 hi,.int .i64 lo,.slice A (a::b::l).length cap]] _ _
 obtain ⟨wu,hwu,hsu,we,hwe,hse,wz,hwz,hsz,hw,cu,ce,cz,hqz,hl1,hl2,hl3⟩:=ql w (aq p A1 A2 A3 A4 A5 A6 A7 c1 c2 c3 c4 c5 c6 c7) 30 (aO 14 lit head name hi lo A (a::b::l).length cap) 45 #[.int .i64 0,.bool false,.bool false] 75
 obtain ⟨u0,u1,u2,u3,u4,u5,u6⟩:=aF cu
 obtain ⟨e0,e1,e2,e3,e4,e5,e6,e7,e8⟩:=bU ce
 obtain ⟨z0,z1,z2⟩:=bF cz
 clear cu ce cz
 have hBz:B≤wz.heap.size:=by omega
 have hPz:=aa (hP.below (hw.out.mono hB))
 have hSz:=aa (hs.below ai (hw.out.mono hB))
 clear hP hs
 obtain ⟨g,o,eca,hAa,hbba,hela,hcella,hra⟩:=hSz.out.2 0 a rfl
 subst hAa
 obtain ⟨g',o',ecb,hAb,hbbb,helb,hcellb,hrb⟩:=hSz.out.2 1 b rfl
 obtain ⟨rfl,rfl⟩:g=g'∧o=o':=by simpa using hAb
 have hXa:=aa (fun (W:World) (hb:Below wz.heap.size wz W)=>iha eca W (Bj hBz hb.size) (hPz.out.below (hb.mono hBz)) (ai.keep hra fun q hq=>(hb.mono hBz).cell hq))
 have hXb:=aa (fun (W:World) (hb:Below wz.heap.size wz W)=>ihb ecb W (Bj hBz hb.size) (hPz.out.below (hb.mono hBz)) (ai.keep hrb fun q hq=>(hb.mono hBz).cell hq))
 have hr:bI p act (.mk 14 lit head name hi lo (a::b::l))=(match bI p act a with| .error n=>.error n| .ok s=>gv s):=by simp only [bI];cases bI p act a<;>simp
 rw [hr]
 clear hr iha ihb he hXb
 have hga:g<wz.heap.size:=by omega
 have hln:1<(a::b::l).length:=by simp
 have hln0:((((a::b::l).length:Nat):Int)==0)=false:=beq_eq_false_iff_ne.2 (by omega)
 have hln1:((((a::b::l).length:Nat):Int)==1)=false:=beq_eq_false_iff_ne.2 (by omega)
 have hlp:0<(a::b::l).length:=by omega
 have hlz:(0:Int)<(((a::b::l).length:Nat):Int):=by omega
 have hlz1:(1:Int)<(((a::b::l).length:Nat):Int):=by omega
 generalize hRa:bI p act a=ra at*
 obtain ⟨opa,lita,heada,namea,hia,loa,argsa⟩:=a
 obtain ⟨Aa,capa,rfl,-,-,-,-,-,-,hsa'⟩:=RE.inv hra
 have la:=hsa'.len
 obtain ⟨xa0,xa1,xa2,xa3,xa4,xa5,xa6,xa7,xa8⟩:=cl hcella
 simp only [Nat.zero_mul,Nat.one_mul,Nat.add_zero] at xa0 xa1 xa2 xa3 xa4 xa5 xa6 xa7 xa8
 clear hcella hra hsa' hela
 generalize hEa:db ra=Ra at hXa
 obtain ⟨⟨aw,ar,af⟩,an⟩:=Ra
 replace hXa:Hid (∀ W,Below wz.heap.size wz W→Calls prog 111 #[.agg (aq p A1 A2 A3 A4 A5 A6 A7 c1 c2 c3 c4 c5 c6 c7),.int .i64 act,.agg (aO opa lita heada namea hia loa Aa argsa.length capa)] W fun e w'=>e=.returned (.tuple #[.agg #[.int .i64 aw,.bool ar,.bool af],.int .i64 an])∧Below W.heap.size W w'):=hXa
 replace hXa:=aa (fun (W:World) (hb:Below wz.heap.size wz W)=>(hXa.out W hb).mono fun e w' h=>(⟨h.1,hb.trans (h.2.mono hb.size),h.2⟩:_∧Below wz.heap.size wz w'∧Below W.heap.size W w'))
 generalize (Ex.mk opa lita heada namea hia loa argsa::b::l).length=nl at*
 go_enter func111,ntmps111
 go_upto_region 3 with fail
 go_cut [8,9] (fun sp er wx=>∃ g,sp=.pointer (some ⟨g,0,none⟩)∧er=.int .i64 an∧Hid (bZ wz wx g aw ar af))
 case first=>
  go_region_held3 (fun w'=>Below wz.heap.size wz w'∧∀ b o,b<wz.heap.size→w'.cell? ⟨b,o,none⟩=wz.cell? ⟨b,o,none⟩) (first|exact bH (Bi _ _).drew|exact bH ((Bi _ _).drew.alloc (Bm _) _)|exact bH hb3|exact bH (hb3.alloc hb3.size _)|exact bH (ad (hb3.alloc hb3.size _) hb3.size _ _ _)|exact bH (ad hb3 (Bm _) _ _ _)|exact bH (hb3.alloc hb3.size _))
   ((go_at_call 111;refine (hXa.out _ (by first|exact (Bi _ _).drew|exact (Bi _ _).drew.alloc (Bm _) _)).mono ?_;rintro e w3 ⟨rfl,hb3,hb4⟩;have kb4:=cM hb4))
  all_goals go_wp2
  all_goals go_meet
  all_goals first
   |exact ⟨_,rfl,rfl,aa (bZ.new hb3 _ _ _)⟩
   |exact ⟨_,rfl,rfl,aa (bZ.set rfl hb3 hb4 _ _ _)⟩
 case rest=>
  obtain ⟨ga,rfl,rfl,hT0⟩:=hcut
  obtain ⟨hbc,hgz,hgl,s0,s1,s2⟩:=hT0.out
  have kbc:=ab hbc
  have q1:=Bg hl1 hbc.size
  have q2:=Bg hl2 hbc.size
  have q3:=Bg hl3 hbc.size
  clear hXa
  cases ra with
  |error m=>
   simp only [db,Prod.mk.injEq,Ty.mk.injEq] at hEa
   obtain ⟨⟨rfl,rfl,rfl⟩,rfl⟩:=hEa
   have hmq:(m !=0)=true:=bne_iff_ne.2 (el act _ _ hRa)
   go_wp2
   have k0:=(hbc.cell (p:=⟨w.heap.size+1+1,0,none⟩) hl3).trans z0
   have k1:=(hbc.cell (p:=⟨w.heap.size+1+1,1,none⟩) hl3).trans z1
   have k2:=(hbc.cell (p:=⟨w.heap.size+1+1,2,none⟩) hl3).trans z2
   refine bodyPost_ret (v:=.tuple #[.agg #[.int .i64 0,.bool false,.bool false],.int .i64 m]) (by simp [results,results111,go_sem,k0,k1,k2]) rfl ⟨rfl,?_⟩
   exact ad (hw.out.trans (hbc.mono (by omega))) (by omega) _ _ _
  |ok t=>
   obtain ⟨tw,tr,tf⟩:=t
   simp only [db,Prod.mk.injEq,Ty.mk.injEq] at hEa
   obtain ⟨⟨rfl,rfl,rfl⟩,rfl⟩:=hEa
   have hG:=fun (W:World)=>dY ⟨tw,tr,tf⟩ W
   cases tr with
   |true=>
    have hb0:=aa (show ∀ W,Calls prog _ _ W fun e w'=>e=.returned (.int .i64 9)∧Below W.heap.size W w' from hG)
    clear hG
    go_wp2_with (go_at_call 112;refine (hb0.out _).mono ?_;rintro e w4 ⟨rfl,hb4⟩;have kb4:=ab (hbc.trans (hb4.mono hbc.size));have kb5:=ab hb4;have p3:=Bg q3 hb4.size)
    have hbE:=hbc.trans (hb4.mono hbc.size)
    have k0:=(hbE.cell (p:=⟨w.heap.size+1+1,0,none⟩) hl3).trans z0
    have k1:=(hbE.cell (p:=⟨w.heap.size+1+1,1,none⟩) hl3).trans z1
    have k2:=(hbE.cell (p:=⟨w.heap.size+1+1,2,none⟩) hl3).trans z2
    refine bodyPost_ret (v:=.tuple #[.agg #[.int .i64 0,.bool false,.bool false],.int .i64 9]) (by simp [results,results111,go_sem,k0,k1,k2]) rfl ⟨rfl,?_⟩
    exact ad (hw.out.trans (hbE.mono (by omega))) (by omega) _ _ _
   |false=>
    cases tf with
    |true=>
     have hb0:=aa (show ∀ W,Calls prog _ _ W fun e w'=>e=.returned (.int .i64 10)∧Below W.heap.size W w' from hG)
     clear hG
     go_wp2_with (go_at_call 112;refine (hb0.out _).mono ?_;rintro e w4 ⟨rfl,hb4⟩;have kb4:=ab (hbc.trans (hb4.mono hbc.size));have kb5:=ab hb4;have p3:=Bg q3 hb4.size)
     have hbE:=hbc.trans (hb4.mono hbc.size)
     have k0:=(hbE.cell (p:=⟨w.heap.size+1+1,0,none⟩) hl3).trans z0
     have k1:=(hbE.cell (p:=⟨w.heap.size+1+1,1,none⟩) hl3).trans z1
     have k2:=(hbE.cell (p:=⟨w.heap.size+1+1,2,none⟩) hl3).trans z2
     refine bodyPost_ret (v:=.tuple #[.agg #[.int .i64 0,.bool false,.bool false],.int .i64 10]) (by simp [results,results111,go_sem,k0,k1,k2]) rfl ⟨rfl,?_⟩
     exact ad (hw.out.trans (hbE.mono (by omega))) (by omega) _ _ _
    |false=>
     have hb0:=aa (show ∀ W,Calls prog _ _ W fun e w'=>e=.returned (.int .i64 0)∧Below W.heap.size W w' from hG)
     clear hG
     go_wp2_with (go_at_call 112;refine (hb0.out _).mono ?_;rintro e w4 ⟨rfl,hb4⟩;have kb4:=ab (hbc.trans (hb4.mono hbc.size));have kb5:=ab hb4;have p3:=Bg q3 hb4.size)
     have hbE:=hbc.trans (hb4.mono hbc.size)
     have k0:=(hbE.cell (p:=⟨w.heap.size+1+1,0,none⟩) hl3).trans z0
     have k1:=(hbE.cell (p:=⟨w.heap.size+1+1,1,none⟩) hl3).trans z1
     have k2:=(hbE.cell (p:=⟨w.heap.size+1+1,2,none⟩) hl3).trans z2
     refine bodyPost_ret (v:=.tuple #[.agg #[.int .i64 tw,.bool false,.bool false],.int .i64 0]) (by simp [results,results111,go_sem,k0,k1,k2]) rfl ⟨rfl,?_⟩
     exact ad (hw.out.trans (hbE.mono (by omega))) (by omega) _ _ _
theorem xX (A1 A2 A3 A4 A5 A6 A7:Option Addr) (p:Pg) (c1 c2 c3 c4 c5 c6 c7:Nat) (act:Int) (B:Nat) (hm:dz p=true) (lit:Lt) (head name:ByteArray) (hi lo:Int) (a b:Ex) (l:List Ex) (he:aT (.mk 15 lit head name hi lo (a::b::l))=true) (iha:vQ A1 A2 A3 A4 A5 A6 A7 p c1 c2 c3 c4 c5 c6 c7 act B a) (ihb:vQ A1 A2 A3 A4 A5 A6 A7 p c1 c2 c3 c4 c5 c6 c7 act B b):vQ A1 A2 A3 A4 A5 A6 A7 p c1 c2 c3 c4 c5 c6 c7 act B (.mk 15 lit head name hi lo (a::b::l)):=by
 intro cs w hB hP h
 obtain ⟨A,cap,rfl,-,-,-,-,-,-,hs⟩:=RE.inv h
 have hl:=hs.len
 clear h
 show Calls _ _ #[.agg #[.slice A1 p.headers.length c1,.slice A2 p.metas.length c2,.slice A3 p.states.length c3,.slice A4 p.actions.length c4,.slice A5 p.tables.length c5,.slice A6 p.control.length c6,.slice A7 p.emit.length c7],.int .i64 act,.agg #[.int .u8 15,.int .i64 lit.1,.int .u64 lit.2.1,.int .u64 lit.2.2,.string head,.string name,.int .i64 hi,.int .i64 lo,.slice A (a::b::l).length cap]] _ _
 obtain ⟨wu,hwu,hsu,we,hwe,hse,wz,hwz,hsz,hw,cu,ce,cz,hqz,hl1,hl2,hl3⟩:=ql w (aq p A1 A2 A3 A4 A5 A6 A7 c1 c2 c3 c4 c5 c6 c7) 30 (aO 15 lit head name hi lo A (a::b::l).length cap) 45 #[.int .i64 0,.bool false,.bool false] 75
 obtain ⟨u0,u1,u2,u3,u4,u5,u6⟩:=aF cu
 obtain ⟨e0,e1,e2,e3,e4,e5,e6,e7,e8⟩:=bU ce
 obtain ⟨z0,z1,z2⟩:=bF cz
 clear cu ce cz
 have hBz:B≤wz.heap.size:=by omega
 have hPz:=aa (hP.below (hw.out.mono hB))
 have hSz:=aa (hs.below ai (hw.out.mono hB))
 clear hP hs
 obtain ⟨g,o,eca,hAa,hbba,hela,hcella,hra⟩:=hSz.out.2 0 a rfl
 subst hAa
 obtain ⟨g',o',ecb,hAb,hbbb,helb,hcellb,hrb⟩:=hSz.out.2 1 b rfl
 obtain ⟨rfl,rfl⟩:g=g'∧o=o':=by simpa using hAb
 have hXa:=aa (fun (W:World) (hb:Below wz.heap.size wz W)=>iha eca W (Bj hBz hb.size) (hPz.out.below (hb.mono hBz)) (ai.keep hra fun q hq=>(hb.mono hBz).cell hq))
 have hXb:=aa (fun (W:World) (hb:Below wz.heap.size wz W)=>ihb ecb W (Bj hBz hb.size) (hPz.out.below (hb.mono hBz)) (ai.keep hrb fun q hq=>(hb.mono hBz).cell hq))
 have hr:bI p act (.mk 15 lit head name hi lo (a::b::l))=(match bI p act a with| .error n=>.error n| .ok s=>gv s):=by simp only [bI];cases bI p act a<;>simp
 rw [hr]
 clear hr iha ihb he hXb
 have hga:g<wz.heap.size:=by omega
 have hln:1<(a::b::l).length:=by simp
 have hln0:((((a::b::l).length:Nat):Int)==0)=false:=beq_eq_false_iff_ne.2 (by omega)
 have hln1:((((a::b::l).length:Nat):Int)==1)=false:=beq_eq_false_iff_ne.2 (by omega)
 have hlp:0<(a::b::l).length:=by omega
 have hlz:(0:Int)<(((a::b::l).length:Nat):Int):=by omega
 have hlz1:(1:Int)<(((a::b::l).length:Nat):Int):=by omega
 generalize hRa:bI p act a=ra at*
 obtain ⟨opa,lita,heada,namea,hia,loa,argsa⟩:=a
 obtain ⟨Aa,capa,rfl,-,-,-,-,-,-,hsa'⟩:=RE.inv hra
 have la:=hsa'.len
 obtain ⟨xa0,xa1,xa2,xa3,xa4,xa5,xa6,xa7,xa8⟩:=cl hcella
 simp only [Nat.zero_mul,Nat.one_mul,Nat.add_zero] at xa0 xa1 xa2 xa3 xa4 xa5 xa6 xa7 xa8
 clear hcella hra hsa' hela
 generalize hEa:db ra=Ra at hXa
 obtain ⟨⟨aw,ar,af⟩,an⟩:=Ra
 replace hXa:Hid (∀ W,Below wz.heap.size wz W→Calls prog 111 #[.agg (aq p A1 A2 A3 A4 A5 A6 A7 c1 c2 c3 c4 c5 c6 c7),.int .i64 act,.agg (aO opa lita heada namea hia loa Aa argsa.length capa)] W fun e w'=>e=.returned (.tuple #[.agg #[.int .i64 aw,.bool ar,.bool af],.int .i64 an])∧Below W.heap.size W w'):=hXa
 replace hXa:=aa (fun (W:World) (hb:Below wz.heap.size wz W)=>(hXa.out W hb).mono fun e w' h=>(⟨h.1,hb.trans (h.2.mono hb.size),h.2⟩:_∧Below wz.heap.size wz w'∧Below W.heap.size W w'))
 generalize (Ex.mk opa lita heada namea hia loa argsa::b::l).length=nl at*
 go_enter func111,ntmps111
 go_upto_region 3 with fail
 go_cut [8,9] (fun sp er wx=>∃ g,sp=.pointer (some ⟨g,0,none⟩)∧er=.int .i64 an∧Hid (bZ wz wx g aw ar af))
 case first=>
  go_region_held3 (fun w'=>Below wz.heap.size wz w'∧∀ b o,b<wz.heap.size→w'.cell? ⟨b,o,none⟩=wz.cell? ⟨b,o,none⟩) (first|exact bH (Bi _ _).drew|exact bH ((Bi _ _).drew.alloc (Bm _) _)|exact bH hb3|exact bH (hb3.alloc hb3.size _)|exact bH (ad (hb3.alloc hb3.size _) hb3.size _ _ _)|exact bH (ad hb3 (Bm _) _ _ _)|exact bH (hb3.alloc hb3.size _))
   ((go_at_call 111;refine (hXa.out _ (by first|exact (Bi _ _).drew|exact (Bi _ _).drew.alloc (Bm _) _)).mono ?_;rintro e w3 ⟨rfl,hb3,hb4⟩;have kb4:=cM hb4))
  all_goals go_wp2
  all_goals go_meet
  all_goals first
   |exact ⟨_,rfl,rfl,aa (bZ.new hb3 _ _ _)⟩
   |exact ⟨_,rfl,rfl,aa (bZ.set rfl hb3 hb4 _ _ _)⟩
 case rest=>
  obtain ⟨ga,rfl,rfl,hT0⟩:=hcut
  obtain ⟨hbc,hgz,hgl,s0,s1,s2⟩:=hT0.out
  have kbc:=ab hbc
  have q1:=Bg hl1 hbc.size
  have q2:=Bg hl2 hbc.size
  have q3:=Bg hl3 hbc.size
  clear hXa
  cases ra with
  |error m=>
   simp only [db,Prod.mk.injEq,Ty.mk.injEq] at hEa
   obtain ⟨⟨rfl,rfl,rfl⟩,rfl⟩:=hEa
   have hmq:(m !=0)=true:=bne_iff_ne.2 (el act _ _ hRa)
   go_wp2
   have k0:=(hbc.cell (p:=⟨w.heap.size+1+1,0,none⟩) hl3).trans z0
   have k1:=(hbc.cell (p:=⟨w.heap.size+1+1,1,none⟩) hl3).trans z1
   have k2:=(hbc.cell (p:=⟨w.heap.size+1+1,2,none⟩) hl3).trans z2
   refine bodyPost_ret (v:=.tuple #[.agg #[.int .i64 0,.bool false,.bool false],.int .i64 m]) (by simp [results,results111,go_sem,k0,k1,k2]) rfl ⟨rfl,?_⟩
   exact ad (hw.out.trans (hbc.mono (by omega))) (by omega) _ _ _
  |ok t=>
   obtain ⟨tw,tr,tf⟩:=t
   simp only [db,Prod.mk.injEq,Ty.mk.injEq] at hEa
   obtain ⟨⟨rfl,rfl,rfl⟩,rfl⟩:=hEa
   have hG:=fun (W:World)=>dY ⟨tw,tr,tf⟩ W
   cases tr with
   |true=>
    have hb0:=aa (show ∀ W,Calls prog _ _ W fun e w'=>e=.returned (.int .i64 9)∧Below W.heap.size W w' from hG)
    clear hG
    go_wp2_with (go_at_call 112;refine (hb0.out _).mono ?_;rintro e w4 ⟨rfl,hb4⟩;have kb4:=ab (hbc.trans (hb4.mono hbc.size));have kb5:=ab hb4;have p3:=Bg q3 hb4.size)
    have hbE:=hbc.trans (hb4.mono hbc.size)
    have k0:=(hbE.cell (p:=⟨w.heap.size+1+1,0,none⟩) hl3).trans z0
    have k1:=(hbE.cell (p:=⟨w.heap.size+1+1,1,none⟩) hl3).trans z1
    have k2:=(hbE.cell (p:=⟨w.heap.size+1+1,2,none⟩) hl3).trans z2
    refine bodyPost_ret (v:=.tuple #[.agg #[.int .i64 0,.bool false,.bool false],.int .i64 9]) (by simp [results,results111,go_sem,k0,k1,k2]) rfl ⟨rfl,?_⟩
    exact ad (hw.out.trans (hbE.mono (by omega))) (by omega) _ _ _
   |false=>
    cases tf with
    |true=>
     have hb0:=aa (show ∀ W,Calls prog _ _ W fun e w'=>e=.returned (.int .i64 10)∧Below W.heap.size W w' from hG)
     clear hG
     go_wp2_with (go_at_call 112;refine (hb0.out _).mono ?_;rintro e w4 ⟨rfl,hb4⟩;have kb4:=ab (hbc.trans (hb4.mono hbc.size));have kb5:=ab hb4;have p3:=Bg q3 hb4.size)
     have hbE:=hbc.trans (hb4.mono hbc.size)
     have k0:=(hbE.cell (p:=⟨w.heap.size+1+1,0,none⟩) hl3).trans z0
     have k1:=(hbE.cell (p:=⟨w.heap.size+1+1,1,none⟩) hl3).trans z1
     have k2:=(hbE.cell (p:=⟨w.heap.size+1+1,2,none⟩) hl3).trans z2
     refine bodyPost_ret (v:=.tuple #[.agg #[.int .i64 0,.bool false,.bool false],.int .i64 10]) (by simp [results,results111,go_sem,k0,k1,k2]) rfl ⟨rfl,?_⟩
     exact ad (hw.out.trans (hbE.mono (by omega))) (by omega) _ _ _
    |false=>
     have hb0:=aa (show ∀ W,Calls prog _ _ W fun e w'=>e=.returned (.int .i64 0)∧Below W.heap.size W w' from hG)
     clear hG
     go_wp2_with (go_at_call 112;refine (hb0.out _).mono ?_;rintro e w4 ⟨rfl,hb4⟩;have kb4:=ab (hbc.trans (hb4.mono hbc.size));have kb5:=ab hb4;have p3:=Bg q3 hb4.size)
     have hbE:=hbc.trans (hb4.mono hbc.size)
     have k0:=(hbE.cell (p:=⟨w.heap.size+1+1,0,none⟩) hl3).trans z0
     have k1:=(hbE.cell (p:=⟨w.heap.size+1+1,1,none⟩) hl3).trans z1
     have k2:=(hbE.cell (p:=⟨w.heap.size+1+1,2,none⟩) hl3).trans z2
     refine bodyPost_ret (v:=.tuple #[.agg #[.int .i64 tw,.bool false,.bool false],.int .i64 0]) (by simp [results,results111,go_sem,k0,k1,k2]) rfl ⟨rfl,?_⟩
     exact ad (hw.out.trans (hbE.mono (by omega))) (by omega) _ _ _
end Go.Proofs.YtbbdhknagofghaaGreat

import Derived.Test.YtbbdhknagofghaaGreatTcp22
set_option linter.all false
set_option maxHeartbeats 16000000
set_option maxRecDepth 100000
open Go.Proofs.Tryz
namespace Go.Proofs.YtbbdhknagofghaaGreat
open _root_.Nat renaming lt_of_lt_of_le→Bg, le_trans→Bj, le_refl→Bm, zero_le→Bo
open _root_.Go.Calls renaming regrown_of→Bh
open _root_.Go.RowKit.Below renaming refl→Bi
open _root_.List renaming getElem?_eq_getElem→Bk, getElem_mem→Bv, all_eq_true→Bw, take_zero→Bz, take_of_length_le→BB, take_succ_cons→BE, drop_succ_cons→BY
open _root_.Go.Sort renaming grow→Bl
open _root_.Bool renaming and_eq_true→Bn
open Go.RowKit
theorem tc (A1 A2 A3 A4 A5 A6 A7:Option Addr) (p:Pg) (c1 c2 c3 c4 c5 c6 c7:Nat) (B:Nat) (hm:bg p=true) (i:Nat) (hi:i<p.states.length) (hks:∀ e∈p.states[i].keys,aT e=true) (b:Int) (s0 s1 s2 s3 s4 s5 s6 s7 s8 s9 s10 s11 s12 s13:Value) (w:World) (hB:B≤w.heap.size) (hP:bu w B A1 A2 A3 A4 A5 A6 A7 p):
  Calls prog 21 #[.agg (aq p A1 A2 A3 A4 A5 A6 A7 c1 c2 c3 c4 c5 c6 c7),.agg #[.int .u8 6,.int .i64 (i:Int),.int .i64 b,s0,s1,s2,s3,s4,s5,s6,s7,s8,s9,s10,s11,s12,s13]] w fun z7 w'=>z7=fq (aD (dc p) p.states[i].keys)∧Below w.heap.size w w':=by
 unfold aq
 obtain ⟨wu,hwu,hsu,wx,hwx,hsx,hw,cu,cx,hfr,hl1,hl2⟩:=kM w (aq p A1 A2 A3 A4 A5 A6 A7 c1 c2 c3 c4 c5 c6 c7) 30 #[.int .u8 6,.int .i64 (i:Int),.int .i64 b,s0,s1,s2,s3,s4,s5,s6,s7,s8,s9,s10,s11,s12,s13] 49
 obtain ⟨u0,u1,u2,u3,u4,u5,u6⟩:=aF cu
 obtain ⟨x0,x1,x2,x3,x4,x5,x6,x7,x8,x9,x10,x11,x12,x13,x14,x15,x16⟩:=bv cx
 clear cu cx
 obtain ⟨wv,hwv,hsv,hbv,hcv,-⟩:=al wx (dw p A1 A2 A3 A4 A5 A6 A7 c1 c2 c3 c4 c5 c6 c7 (-1)) 88
 obtain ⟨v0,v1,v2,v3,v4,v5,v6,v7⟩:=fs hcv
 have kv:=ab hbv
 have hl3:wx.heap.size<wv.heap.size:=by omega
 have m1:=Bg hl1 hbv.size
 have m2:=Bg hl2 hbv.size
 replace hw:=aa (hw.out.trans (hbv.mono (by omega)))
 clear hcv
 replace hsv:=aa hsv
 have hBv:B≤wv.heap.size:=by omega
 have hPz:=aa (hP.below (hw.out.mono hB))
 clear hP
 have hX0:∀ e∈p.states[i].keys,∀ (ecs:List Value) (W:World),Below wv.heap.size wv W→dL wv B ecs e→Calls prog 29 #[.agg (dw p A1 A2 A3 A4 A5 A6 A7 c1 c2 c3 c4 c5 c6 c7 (-1)),.agg ecs.toArray] W fun r w'=>r=fB (bI p (-1) e)∧Below W.heap.size W w':=
  fun e he ecs W hb hr=>ip A1 A2 A3 A4 A5 A6 A7 p c1 c2 c3 c4 c5 c6 c7 (-1) B hm e (hks e he) ecs W (Bj hBv hb.size) (hPz.out.below (hb.mono hBv)) (ai.keep hr fun q hq=>(hb.mono hBv).cell hq)
 obtain ⟨g0,o0,ecs,hA,hb,hel,hcell,B1,d1,B2,d2,B3,d3,hf,hn1,hn2,hS1,hS2,hS3⟩:=hPz.out.states.2 i _ (Bk hi)
 subst hA
 subst hf
 have y3:wv.cell? ⟨g0,o0+i*5+3,none⟩=some (.slice B2 p.states[i].keys.length d2):=hcell 3 _ rfl
 have lm:=hPz.out.states.len
 have lk:=hS2.len
 have hbw:g0<wv.heap.size:=by omega
 have hil:(i:Int)<(p.states.length:Int):=by omega
 replace hX0:=aa hX0
 clear hcell hel hS1 hS3 hks hPz
 generalize p.states[i].keys=keys at*
 replace hS2:=aa hS2
 have hs0:=aa (Bi wv.heap.size wv)
 go_enter func21,ntmps21
 go_wp2
 go_loopw [31] (fun j wr=>∃ k:Nat,k≤keys.length∧j=.int .i64 k∧Hid (aD (dc p) (keys.take k)=.ok ())∧Hid (Below wv.heap.size wv wr)) (fun j _=>keys.length-(intOf j).toNat)
 case atStart=>exact ⟨0,Bo _,rfl,aa (by simp [aD]),hs0⟩
 case round=>
  clear hs0
  obtain ⟨k,hk,rfl,ht,hbr⟩:=hrel
  have hzr:=hbr.out.size
  have hc:=ab hbr.out
  have r1:=Bg m1 hzr
  have r2:=Bg m2 hzr
  have r3:=Bg hl3 hzr
  by_cases hlt:k<keys.length
  ·obtain ⟨b2,o2,ecs2,hA2,hb2,hel2,hcell2,hr2⟩:=hS2.out.2 k _ (Bk hlt)
   subst hA2
   have hltz:(k:Int)<(keys.length:Int):=by omega
   have hX1:=aa (fun (W:World) (hW:Below wv.heap.size wv W)=>hX0.out _ (Bv hlt) ecs2 W hW hr2)
   have hst:=aa (fun n h=>cS (f:=dc p) (n:=n) hlt ht.out h)
   have hnx:=aa (fun h=>cT (f:=dc p) hlt ht.out h)
   have hkr:=aa (show dc p keys[k]=rh (bI p (-1) keys[k]) from rfl)
   generalize dc p keys[k]=kr at hst hnx hkr
   generalize bI p (-1) keys[k]=ra at hX1 hkr
   generalize keys[k]=e at hr2
   obtain ⟨ope,lite,heade,namee,hie,loe,argse⟩:=e
   obtain ⟨Ae,cape,rfl,-,-,-,-,-,-,hs'⟩:=RE.inv hr2
   have hl':=hs'.len
   obtain ⟨t0,t1,t2,t3,t4,t5,t6,t7,t8⟩:=cl hcell2
   obtain ⟨wy,hwy,hzy,hby,hcy,-⟩:=al wr (aO ope lite heade namee hie loe Ae argse.length cape) 45
   obtain ⟨y0',y1',y2',y3',y4',y5',y6',y7',y8'⟩:=bU hcy
   have hbX:=hbr.out.trans (hby.mono hzr)
   have hc2:=ab hbX
   have q1:=Bg m1 hbX.size
   have q2:=Bg m2 hbX.size
   have q3:=Bg hl3 hbX.size
   have hX:Hid (Calls prog 29 #[.agg (dw p A1 A2 (some ⟨g0,o0,none⟩) A4 A5 A6 A7 c1 c2 c3 c4 c5 c6 c7 (-1)),.agg (aO ope lite heade namee hie loe Ae argse.length cape)] wy _):=aa (hX1.out wy hbX)
   have hb':b2<wv.heap.size:=by omega
   replace hbX:=aa hbX
   clear hcell2 hr2 hX1 hs' hel2 hcy hby
   cases ra with
   |error n7=>
    replace hX:=aa (show Calls prog _ _ wy fun e w'=>e=ji n7∧Below wy.heap.size wy w' from hX.out)
    have hres:=aa (hst.out n7 hkr.out)
    clear hnx hst
    go_wp2_with (go_at_call 29;refine hX.out.mono ?_;rintro e w1 ⟨rfl,hw1⟩)
    exact ⟨rfl,by rw [hres.out];rfl,hw.out.trans ((hbX.out.trans (hw1.mono hbX.out.size)).mono (by omega))⟩
   |ok t=>
    obtain ⟨tw,tr,tf⟩:=t
    replace hX:=aa (show Calls prog _ _ wy fun e w'=>e=.returned (.agg #[.int .i64 tw,.bool tr,.bool tf])∧Below wy.heap.size wy w' from hX.out)
    cases tr with
    |true=>
     have hres:=aa (hst.out 9 hkr.out)
     clear hnx hst
     go_wp2_with (first|(go_at_call 35;with_reducible refine (ff _ _ _).mono ?_;rintro e w2 ⟨rfl,hw2⟩)|(go_at_call 29;refine hX.out.mono ?_;rintro e w1 ⟨rfl,hw1⟩))
     exact ⟨rfl,by rw [hres.out];rfl,hw.out.trans ((hbX.out.trans ((hw1.trans (hw2.mono hw1.size)).mono hbX.out.size)).mono (by omega))⟩
    |false=>
     cases tf with
     |true=>
      have hres:=aa (hst.out 10 hkr.out)
      clear hnx hst
      go_wp2_with (first|(go_at_call 35;with_reducible refine (fg _ _).mono ?_;rintro e w2 ⟨rfl,hw2⟩)|(go_at_call 29;refine hX.out.mono ?_;rintro e w1 ⟨rfl,hw1⟩))
      exact ⟨rfl,by rw [hres.out];rfl,hw.out.trans ((hbX.out.trans ((hw1.trans (hw2.mono hw1.size)).mono hbX.out.size)).mono (by omega))⟩
     |false=>
      have hres:=aa (hnx.out hkr.out)
      clear hnx hst
      go_wp2_with (first|(go_at_call 35;with_reducible refine (dg _ _).mono ?_;rintro e w2 ⟨rfl,hw2⟩)|(go_at_call 29;refine hX.out.mono ?_;rintro e w1 ⟨rfl,hw1⟩))
      go_roundw
      case rel=>exact ⟨k+1,by omega,by go_num,hres,aa (hbX.out.trans ((hw1.trans (hw2.mono hw1.size)).mono hbX.out.size))⟩
      case measure=>simp [intOf];omega
  ·have hfull:=aa (show aD (dc p) keys=.ok () from by rw [←ht.out,BB (by omega)])
   go_wp2
   (try simp only [Exit.inBlock,Exit.then])
   refine bodyPost_end (results_none rfl _ _ _) rfl ?_
   exact ⟨by rw [hfull.out];rfl,hw.out.trans (hbr.out.mono (by omega))⟩
theorem td (A1 A2 A3 A4 A5 A6 A7:Option Addr) (p:Pg) (c1 c2 c3 c4 c5 c6 c7:Nat) (B:Nat) (hm:bg p=true) (a b:Int) (st:St) (he:∀ kind head name e thn els,st=.mk kind head name e thn els→(kind=1∨kind=2∨kind=5→aT e=true)∧(kind=1→rg p head name)) (s0 s1 s2 s3 s4 s5 s6 s7 s8 s9 s10 s11 s12 s13:Value) (w:World) (hB:B≤w.heap.size) (hP:bu w B A1 A2 A3 A4 A5 A6 A7 p) (hst:dR w B [s0,s1,s2,s3,s4,s5,s6,s7,s8,s9,s10,s11,s12,s13] st):
  Calls prog 21 #[.agg (aq p A1 A2 A3 A4 A5 A6 A7 c1 c2 c3 c4 c5 c6 c7),.agg #[.int .u8 10,.int .i64 a,.int .i64 b,s0,s1,s2,s3,s4,s5,s6,s7,s8,s9,s10,s11,s12,s13]] w fun z7 w'=>z7=fq (lj p a st)∧Below w.heap.size w w':=by
 unfold aq
 obtain ⟨wu,hwu,hsu,wx,hwx,hsx,hw,cu,cx,hfr,hl1,hl2⟩:=kM w (aq p A1 A2 A3 A4 A5 A6 A7 c1 c2 c3 c4 c5 c6 c7) 30 #[.int .u8 10,.int .i64 a,.int .i64 b,s0,s1,s2,s3,s4,s5,s6,s7,s8,s9,s10,s11,s12,s13] 49
 obtain ⟨u0,u1,u2,u3,u4,u5,u6⟩:=aF cu
 obtain ⟨x0,x1,x2,x3,x4,x5,x6,x7,x8,x9,x10,x11,x12,x13,x14,x15,x16⟩:=bv cx
 clear cu cx
 obtain ⟨wv,hwv,hsv,hbv,hcv,-⟩:=al wx (dw p A1 A2 A3 A4 A5 A6 A7 c1 c2 c3 c4 c5 c6 c7 (-1)) 88
 obtain ⟨v0,v1,v2,v3,v4,v5,v6,v7⟩:=fs hcv
 have kv:=ab hbv
 have hl3:wx.heap.size<wv.heap.size:=by omega
 have m1:=Bg hl1 hbv.size
 have m2:=Bg hl2 hbv.size
 replace hw:=aa (hw.out.trans (hbv.mono (by omega)))
 clear hcv
 replace hsv:=aa hsv
 have hBv:B≤wv.heap.size:=by omega
 have hPz:=aa (hP.below (hw.out.mono hB))
 clear hP
 have hX:=aa (show Calls prog 37 #[.agg (dw p A1 A2 A3 A4 A5 A6 A7 c1 c2 c3 c4 c5 c6 c7 a),.agg #[s0,s1,s2,s3,s4,s5,s6,s7,s8,s9,s10,s11,s12,s13]] wv _ from vv A1 A2 A3 A4 A5 A6 A7 p c1 c2 c3 c4 c5 c6 c7 a B hm st he [s0,s1,s2,s3,s4,s5,s6,s7,s8,s9,s10,s11,s12,s13] wv hBv hPz.out (be.keep hst fun q hq=>(hw.out.mono hB).cell hq))
 generalize lj p a st=r at hX ⊢
 clear hst he hPz
 cases r with
 |error n7=>
  replace hX:=aa (show Calls prog _ _ wv fun e w'=>e=ji n7∧Below wv.heap.size wv w' from hX.out)
  go_enter func21,ntmps21
  go_wp2_with (go_at_call 37;refine hX.out.mono ?_;rintro e w3 ⟨rfl,hb3⟩)
  exact ⟨rfl,rfl,hw.out.trans (hb3.mono (by omega))⟩
 |ok u=>
  replace hX:=aa (show Calls prog _ _ wv fun e w'=>e=.returned (.tuple #[])∧Below wv.heap.size wv w' from hX.out)
  go_enter func21,ntmps21
  go_wp2_with (go_at_call 37;refine hX.out.mono ?_;rintro e w3 ⟨rfl,hb3⟩)
  (try simp only [Exit.inBlock,Exit.then])
  refine bodyPost_end (results_none rfl _ _ _) rfl ?_
  exact ⟨rfl,hw.out.trans (hb3.mono (by omega))⟩
theorem te (A1 A2 A3 A4 A5 A6 A7:Option Addr) (p:Pg) (c1 c2 c3 c4 c5 c6 c7:Nat) (B:Nat) (hm:bg p=true) (k a b:Int) (n6:¬k=6) (n7:¬k=7) (n10:¬k=10) (n12:¬k=12) (n14:¬k=14) (s0 s1 s2 s3 s4 s5 s6 s7 s8 s9 s10 s11 s12 s13:Value) (w:World) (hB:B≤w.heap.size) (hP:bu w B A1 A2 A3 A4 A5 A6 A7 p):
  Calls prog 21 #[.agg (aq p A1 A2 A3 A4 A5 A6 A7 c1 c2 c3 c4 c5 c6 c7),.agg #[.int .u8 k,.int .i64 a,.int .i64 b,s0,s1,s2,s3,s4,s5,s6,s7,s8,s9,s10,s11,s12,s13]] w fun z7 w'=>z7=fq (.ok ())∧Below w.heap.size w w':=by
 unfold aq
 obtain ⟨wu,hwu,hsu,wx,hwx,hsx,hw,cu,cx,hfr,hl1,hl2⟩:=kM w (aq p A1 A2 A3 A4 A5 A6 A7 c1 c2 c3 c4 c5 c6 c7) 30 #[.int .u8 k,.int .i64 a,.int .i64 b,s0,s1,s2,s3,s4,s5,s6,s7,s8,s9,s10,s11,s12,s13] 49
 obtain ⟨u0,u1,u2,u3,u4,u5,u6⟩:=aF cu
 obtain ⟨x0,x1,x2,x3,x4,x5,x6,x7,x8,x9,x10,x11,x12,x13,x14,x15,x16⟩:=bv cx
 clear cu cx
 obtain ⟨wv,hwv,hsv,hbv,hcv,-⟩:=al wx (dw p A1 A2 A3 A4 A5 A6 A7 c1 c2 c3 c4 c5 c6 c7 (-1)) 88
 obtain ⟨v0,v1,v2,v3,v4,v5,v6,v7⟩:=fs hcv
 have kv:=ab hbv
 have hl3:wx.heap.size<wv.heap.size:=by omega
 have m1:=Bg hl1 hbv.size
 have m2:=Bg hl2 hbv.size
 replace hw:=aa (hw.out.trans (hbv.mono (by omega)))
 clear hcv
 replace hsv:=aa hsv
 have hBv:B≤wv.heap.size:=by omega
 have hPz:=aa (hP.below (hw.out.mono hB))
 clear hP
 have i6:(k==6)=false:=beq_eq_false_iff_ne.2 n6
 have i7:(k==7)=false:=beq_eq_false_iff_ne.2 n7
 have i10:(k==10)=false:=beq_eq_false_iff_ne.2 n10
 have i12:(k==12)=false:=beq_eq_false_iff_ne.2 n12
 have i14:(k==14)=false:=beq_eq_false_iff_ne.2 n14
 clear hPz
 go_enter func21,ntmps21
 go_wp2
 (try simp only [Exit.inBlock,Exit.then])
 refine bodyPost_end (results_none rfl _ _ _) rfl ?_
 exact ⟨rfl,hw.out⟩
def jH (w:World) (A5:Option Addr) (p:Pg):Prop:=∀ (i:Nat) (hi:i<p.tables.length) (g o:Nat) (A:Option Addr) (c:Nat),A5=some ⟨g,o,none⟩→w.cell? ⟨g,o+i*5+1,none⟩=some (.slice A (p.tables[i]).keys.length c)→(p.tables[i]).keys.length≤c
theorem vy (A1 A2 A3 A4 A5 A6 A7:Option Addr) (p:Pg) (c1 c2 c3 c4 c5 c6 c7:Nat) (B:Nat) (hm:bg p=true) (i:Nat) (hi:i<p.tables.length) (j:Nat) (hj:j<p.tables[i].keys.length) (hek:aT p.tables[i].keys[j].e=true) (s0 s1 s2 s3 s4 s5 s6 s7 s8 s9 s10 s11 s12 s13:Value) (w:World) (hB:B≤w.heap.size) (hP:bu w B A1 A2 A3 A4 A5 A6 A7 p) (hcap:jH w A5 p):
  Calls prog 21 #[.agg (aq p A1 A2 A3 A4 A5 A6 A7 c1 c2 c3 c4 c5 c6 c7),.agg #[.int .u8 12,.int .i64 (i:Int),.int .i64 (j:Int),s0,s1,s2,s3,s4,s5,s6,s7,s8,s9,s10,s11,s12,s13]] w fun z7 w'=>z7=fq (eG p p.tables[i].keys j p.tables[i].keys[j])∧Below w.heap.size w w':=by
 unfold aq
 obtain ⟨wu,hwu,hsu,wx,hwx,hsx,hw,cu,cx,hfr,hl1,hl2⟩:=kM w (aq p A1 A2 A3 A4 A5 A6 A7 c1 c2 c3 c4 c5 c6 c7) 30 #[.int .u8 12,.int .i64 (i:Int),.int .i64 (j:Int),s0,s1,s2,s3,s4,s5,s6,s7,s8,s9,s10,s11,s12,s13] 49
 obtain ⟨u0,u1,u2,u3,u4,u5,u6⟩:=aF cu
 obtain ⟨x0,x1,x2,x3,x4,x5,x6,x7,x8,x9,x10,x11,x12,x13,x14,x15,x16⟩:=bv cx
 clear cu cx
 obtain ⟨wv,hwv,hsv,hbv,hcv,-⟩:=al wx (dw p A1 A2 A3 A4 A5 A6 A7 c1 c2 c3 c4 c5 c6 c7 (-1)) 88
 obtain ⟨v0,v1,v2,v3,v4,v5,v6,v7⟩:=fs hcv
 have kv:=ab hbv
 have hl3:wx.heap.size<wv.heap.size:=by omega
 have m1:=Bg hl1 hbv.size
 have m2:=Bg hl2 hbv.size
 replace hw:=aa (hw.out.trans (hbv.mono (by omega)))
 clear hcv
 replace hsv:=aa hsv
 have hBv:B≤wv.heap.size:=by omega
 have hPz:=aa (hP.below (hw.out.mono hB))
 clear hP
 have hX0:∀ (ecs:List Value) (W:World),Below wv.heap.size wv W→dL wv B ecs p.tables[i].keys[j].e→Calls prog 29 #[.agg (dw p A1 A2 A3 A4 A5 A6 A7 c1 c2 c3 c4 c5 c6 c7 (-1)),.agg ecs.toArray] W fun r w'=>r=fB (bI p (-1) p.tables[i].keys[j].e)∧Below W.heap.size W w':=
  fun ecs W hb hr=>ip A1 A2 A3 A4 A5 A6 A7 p c1 c2 c3 c4 c5 c6 c7 (-1) B hm _ hek ecs W (Bj hBv hb.size) (hPz.out.below (hb.mono hBv)) (ai.keep hr fun q hq=>(hb.mono hBv).cell hq)
 obtain ⟨g0,o0,ecs,hA,hb,hel,hcell,B1,d1,B2,d2,B3,d3,hf,hn1,hn2,hS1,hS2,hS3⟩:=hPz.out.tables.2 i _ (Bk hi)
 subst hA
 subst hf
 obtain ⟨y0,y1,y2,y3,y4⟩:=cN hcell
 have hcp:=hcap i hi g0 o0 B1 d1 rfl (by rw [←hw.out.cell (p:=⟨g0,o0+i*5+1,none⟩) (by show g0<_;omega)];exact y1)
 have hcj:j≤d1:=by omega
 have hcz:(j:Int)≤(d1:Int):=by omega
 have lm:=hPz.out.tables.len
 have lk:=hS1.len
 have hbw:g0<wv.heap.size:=by omega
 have hil:(i:Int)<(p.tables.length:Int):=by omega
 obtain ⟨g1,o1,ecs1,hA1,hb1,hel1,hcell1,fcs,hfc,-,hr1⟩:=hS1.2 j _ (Bk hj)
 subst hA1
 replace hX0:=aa (fun (W:World) (hW:Below wv.heap.size wv W)=>hX0 fcs W hW hr1)
 have hjl:(j:Int)<(p.tables[i].keys.length:Int):=by omega
 have hjn:(0:Int)≤(j:Int):=by omega
 have hjle:(j:Int)≤(p.tables[i].keys.length:Int):=by omega
 have hbw1:g1<wv.heap.size:=by omega
 have hv:=aa (show eG p p.tables[i].keys j p.tables[i].keys[j]=(match rh (bI p (-1) p.tables[i].keys[j].e) with| .error n=>.error n| .ok _=>aD (c9 p.tables[i].keys[j].kind) (p.tables[i].keys.take j)) from rfl)
 generalize eG p p.tables[i].keys j p.tables[i].keys[j]=r at hv ⊢
 generalize bI p (-1) p.tables[i].keys[j].e=ra at hX0 hv
 obtain ⟨keyj,hkeyj⟩:∃ q,p.tables[i].keys[j]=q:=⟨_,rfl⟩
 rw [hkeyj] at hfc hr1 hv
 obtain ⟨ej,kj⟩:=keyj
 simp only at hfc hr1 hv
 obtain ⟨opa,lita,heada,namea,hia,loa,argsa⟩:=ej
 obtain ⟨Aa,capa,rfl,-,-,-,-,-,-,hsa'⟩:=RE.inv hr1
 have la:=hsa'.len
 subst hfc
 obtain ⟨z0,z1,z2,z3,z4,z5,z6,z7,z8,z9⟩:=jU hcell1
 have hX:Hid (∀ W,Below wv.heap.size wv W→Calls prog 29 #[.agg (dw p A1 A2 A3 A4 (some ⟨g0,o0,none⟩) A6 A7 c1 c2 c3 c4 c5 c6 c7 (-1)),.agg (aO opa lita heada namea hia loa Aa argsa.length capa)] W _):=hX0
 clear hX0 hr1 hsa' hcell hcell1 hel hel1 hkeyj hPz hek hn1 hn2 hS2 hS3
 generalize p.tables[i].keys=keys at*
 generalize p.tables[i].actions.length=nact at*
 generalize p.tables[i].dargs.length=ndar at*
 generalize p.tables[i].name=tname at*
 generalize p.tables[i].dname=tdname at*
 obtain ⟨wt,hwt,hst,hbt,hct,-⟩:=al wv #[.string tname,.slice (some ⟨g1,o1,none⟩) keys.length d1,.slice B2 nact d2,.string tdname,.slice B3 ndar d3] 58
 obtain ⟨t0,t1,t2,t3,t4⟩:=fR hct
 have kt:=ab hbt
 have n1:=Bg m1 hbt.size
 have n2:=Bg m2 hbt.size
 have n3:=Bg hl3 hbt.size
 have n4:wv.heap.size<wt.heap.size:=by omega
 have n5:=Bg hbw1 hbt.size
 have hsw:wv.heap.size≤wt.heap.size:=by omega
 clear hct
 replace hst:=aa hst
 replace hS1:=aa hS1
 have hg:=ax (Bi wt.heap.size wt) (Bm _)
 go_enter func21,ntmps21
 go_wp2_with fail
 refine aS 8 (by kernel_rfl) (by kernel_rfl) ?_
 simp only [BE,Bz,BY,List.drop_zero]
 repeat (any_goals (first|go_big_quiet_step (fail)|quiet_step (fail)))
 refine wpQuiet_nil ?_
 intro w2 hw2
 have kw2:=ab hw2
 have hb2:=hbt.trans (hw2.mono hbt.size)
 have p1:=Bg n1 hw2.size
 have p2:=Bg n2 hw2.size
 have p3:=Bg n3 hw2.size
 have p4:=Bg n4 hw2.size
 have p5:=Bg n5 hw2.size
 clear hg
 cases ra with
 |error n7=>
  replace hX:=aa (show Calls prog _ _ w2 fun e w'=>e=ji n7∧Below w2.heap.size w2 w' from hX.out w2 hb2)
  go_wp2_with (go_at_call 29;refine hX.out.mono ?_;rintro e w3 ⟨rfl,hw3⟩)
  exact ⟨rfl,by rw [hv.out];rfl,hw.out.trans ((hb2.trans (hw3.mono hb2.size)).mono (by omega))⟩
 |ok t=>
  obtain ⟨tw,tr,tf⟩:=t
  replace hX:=aa (show Calls prog _ _ w2 fun e w'=>e=.returned (.agg #[.int .i64 tw,.bool tr,.bool tf])∧Below w2.heap.size w2 w' from hX.out w2 hb2)
  cases tr with
  |true=>
   go_wp2_with (first|(go_at_call 35;with_reducible refine (ff _ _ _).mono ?_;rintro e w4 ⟨rfl,hw4⟩)|(go_at_call 29;refine hX.out.mono ?_;rintro e w3 ⟨rfl,hw3⟩))
   exact ⟨rfl,by rw [hv.out];rfl,hw.out.trans ((hb2.trans ((hw3.trans (hw4.mono hw3.size)).mono hb2.size)).mono (by omega))⟩
  |false=>
   cases tf with
   |true=>
    go_wp2_with (first|(go_at_call 35;with_reducible refine (fg _ _).mono ?_;rintro e w4 ⟨rfl,hw4⟩)|(go_at_call 29;refine hX.out.mono ?_;rintro e w3 ⟨rfl,hw3⟩))
    exact ⟨rfl,by rw [hv.out];rfl,hw.out.trans ((hb2.trans ((hw3.trans (hw4.mono hw3.size)).mono hb2.size)).mono (by omega))⟩
   |false=>
    replace hv:=aa (show r=aD (c9 kj) (keys.take j) from hv.out)
    go_wp2_with (first|(go_at_call 35;with_reducible refine (dg _ _).mono ?_;rintro e w4 ⟨rfl,hw4⟩;have hb4:=hw2.trans ((hw3.trans (hw4.mono hw3.size)).mono hw2.size);have kw4:=ab hb4;have j1:=Bg n1 hb4.size;have j2:=Bg n2 hb4.size;have j3:=Bg n3 hb4.size;have j4:=Bg n4 hb4.size;have j5:=Bg n5 hb4.size)|(go_at_call 29;refine hX.out.mono ?_;rintro e w3 ⟨rfl,hw3⟩))
    have hs0:=aa hb4
    go_loopw [117] (fun q wr=>∃ k:Nat,k≤j∧q=.int .i64 k∧Hid (aD (c9 kj) ((keys.take j).take k)=.ok ())∧Hid (Below wt.heap.size wt wr)) (fun q _=>j-(intOf q).toNat)
    case atStart=>exact ⟨0,Bo _,rfl,aa (by simp [aD]),hs0⟩
    case round=>
     clear hs0 kw2 p1 p2 p3 p4 p5 kw4 j1 j2 j3 j4 j5
     obtain ⟨k,hk,rfl,ht,hbr⟩:=hrel
     have hzr:=hbr.out.size
     have hc:=ab hbr.out
     have r1:=Bg n1 hzr
     have r2:=Bg n2 hzr
     have r3:=Bg n3 hzr
     have r4:=Bg n4 hzr
     have r5:=Bg n5 hzr
     by_cases hlt:k<j
     ·have hltk:k<keys.length:=by omega
      have hltt:k<(keys.take j).length:=by rw [List.length_take];omega
      obtain ⟨g2,o2,ecs2,hA2,hb2',hel2,hcell2,fcs2,hfc2,-,hr2⟩:=hS1.out.2 k _ (Bk hltk)
      obtain ⟨rfl,rfl⟩:g1=g2∧o1=o2:=by simpa using hA2
      have hltz:(k:Int)<(j:Int):=by omega
      have hst:=aa (fun h=>cS (f:=c9 kj) (n:=8) hltt ht.out h)
      have hnx:=aa (fun h=>cT (f:=c9 kj) hltt ht.out h)
      have hel:(keys.take j)[k]=keys[k]:=List.getElem_take ..
      rw [hel] at hst hnx
      have hkr:=aa (show c9 kj keys[k]=if keys[k].kind=2∧kj=2 then .error 8 else .ok () from rfl)
      generalize c9 kj keys[k]=kr at hst hnx hkr
      generalize keys[k]=key at hr2 hfc2 hkr
      obtain ⟨e,ke⟩:=key
      obtain ⟨ope,lite,heade,namee,hie,loe,argse⟩:=e
      obtain ⟨Ae,cape,rfl,-,-,-,-,-,-,hs'⟩:=RE.inv hr2
      have hl':=hs'.len
      subst hfc2
      obtain ⟨x0',x1',x2',x3',x4',x5',x6',x7',x8',x9'⟩:=jU hcell2
      obtain ⟨wy,hwy,hzy,hby,hcy,-⟩:=al wr #[.int .u8 ope,.int .i64 lite.1,.int .u64 lite.2.1,.int .u64 lite.2.2,.string heade,.string namee,.int .i64 hie,.int .i64 loe,.slice Ae argse.length cape,.int .u8 ke] 52
      obtain ⟨y0',y1',y2',y3',y4',y5',y6',y7',y8',y9'⟩:=zN hcy
      have hbX:=hbr.out.trans (hby.mono hzr)
      have hc2:=ab hbX
      have q1:=Bg n1 hbX.size
      have q2:=Bg n2 hbX.size
      have q3:=Bg n3 hbX.size
      have q4:=Bg n4 hbX.size
      have q5:=Bg n5 hbX.size
      replace hbX:=aa hbX
      simp only at hkr
      clear hcell2 hr2 hs' hel2 hcy hby hel hA2
      by_cases h2:ke=2∧kj=2
      ·have hres:=aa (hst.out (hkr.out.trans (if_pos h2)))
       obtain ⟨rfl,rfl⟩:=h2
       clear hnx hst hkr
       go_wp2_with (go_at_call 27;with_reducible refine (bJ _ _).mono ?_;rintro e w' ⟨rfl,rfl⟩)
       exact ⟨rfl,by rw [hv.out,hres.out];rfl,hw.out.trans ((hbt.trans (hbX.out.mono hsw)).mono (by omega))⟩
      ·have hres:=aa (hnx.out (hkr.out.trans (if_neg h2)))
       clear hnx hst hkr
       by_cases h3:ke=2
       ·have h4:¬kj=2:=fun h=>h2 ⟨h3,h⟩
        have h4q:(kj !=2)=true:=bne_iff_ne.2 h4
        subst h3
        clear h2
        go_wp2_with (go_at_call 27;with_reducible refine (aP _ _).mono ?_;rintro e w' ⟨rfl,rfl⟩)
        go_roundw
        case rel=>exact ⟨k+1,by omega,by go_num,hres,hbX⟩
        case measure=>simp [intOf];omega
       ·have h3q:(ke !=2)=true:=bne_iff_ne.2 h3
        clear h2
        go_wp2_with (go_at_call 27;with_reducible refine (aP _ _).mono ?_;rintro e w' ⟨rfl,rfl⟩)
        go_roundw
        case rel=>exact ⟨k+1,by omega,by go_num,hres,hbX⟩
        case measure=>simp [intOf];omega
     ·have hfull:=aa (show aD (c9 kj) (keys.take j)=.ok () from by have h:=ht.out;rwa [BB (l:=keys.take j) (by rw [List.length_take];omega)] at h)
      go_wp2
      (try simp only [Exit.inBlock,Exit.then])
      refine bodyPost_end (results_none rfl _ _ _) rfl ?_
      exact ⟨by rw [hv.out,hfull.out];rfl,hw.out.trans ((hbt.trans (hbr.out.mono hsw)).mono (by omega))⟩
theorem nK (A1 A2 A3 A4 A5 A6 A7:Option Addr) (p:Pg) (c1 c2 c3 c4 c5 c6 c7:Nat) (B:Nat) (hm:bg p=true) (i:Nat) (hi:i<p.tables.length) (b:Int) (k:Nat) (hk:k<p.actions.length) (hkz:bz p p.tables[i].dname=(k:Int)) (hlen:p.actions[k].params.length=p.tables[i].dargs.length) (s0 s1 s2 s3 s4 s5 s6 s7 s8 s9 s10 s11 s12 s13:Value) (w:World) (hB:B≤w.heap.size) (hP:bu w B A1 A2 A3 A4 A5 A6 A7 p):
  Calls prog 21 #[.agg (aq p A1 A2 A3 A4 A5 A6 A7 c1 c2 c3 c4 c5 c6 c7),.agg #[.int .u8 14,.int .i64 (i:Int),.int .i64 b,s0,s1,s2,s3,s4,s5,s6,s7,s8,s9,s10,s11,s12,s13]] w fun z7 w'=>z7=fq (aD gQ (p.actions[k].params.zip p.tables[i].dargs))∧Below w.heap.size w w':=by
 unfold aq
 obtain ⟨wu,hwu,hsu,wx,hwx,hsx,hw,cu,cx,hfr,hl1,hl2⟩:=kM w (aq p A1 A2 A3 A4 A5 A6 A7 c1 c2 c3 c4 c5 c6 c7) 30 #[.int .u8 14,.int .i64 (i:Int),.int .i64 b,s0,s1,s2,s3,s4,s5,s6,s7,s8,s9,s10,s11,s12,s13] 49
 obtain ⟨u0,u1,u2,u3,u4,u5,u6⟩:=aF cu
 obtain ⟨x0,x1,x2,x3,x4,x5,x6,x7,x8,x9,x10,x11,x12,x13,x14,x15,x16⟩:=bv cx
 clear cu cx
 obtain ⟨wv,hwv,hsv,hbv,hcv,-⟩:=al wx (dw p A1 A2 A3 A4 A5 A6 A7 c1 c2 c3 c4 c5 c6 c7 (-1)) 88
 obtain ⟨v0,v1,v2,v3,v4,v5,v6,v7⟩:=fs hcv
 have kv:=ab hbv
 have hl3:wx.heap.size<wv.heap.size:=by omega
 have m1:=Bg hl1 hbv.size
 have m2:=Bg hl2 hbv.size
 replace hw:=aa (hw.out.trans (hbv.mono (by omega)))
 clear hcv
 replace hsv:=aa hsv
 have hBv:B≤wv.heap.size:=by omega
 have hPz:=aa (hP.below (hw.out.mono hB))
 clear hP
 have hmw:p.actions[k].params.all gB=true:=by
  have hm':=hm
  simp only [bg,Bn] at hm'
  obtain ⟨⟨⟨⟨⟨⟨⟨_,_⟩,_⟩,_⟩,ha⟩,_⟩,_⟩,_⟩:=hm'
  have had:=Bw.1 ha _ (Bv hk)
  simp only [nB,Bn] at had
  exact had.1.2
 have hAc0:∀ d os,∀ W,Below wv.heap.size wv W→Hid (Calls prog 38 #[.agg (aq p A1 A2 A3 A4 A5 A6 A7 c1 c2 c3 c4 c5 c6 c7),.string p.tables[i].dname] (Bl (redrawn W d) os) fun e w'=>e=.returned (.int .i64 (k:Int))∧Below (Bl (redrawn W d) os).heap.size (Bl (redrawn W d) os) w'):=fun d os W hb=>aa (by
  have:=gc (Bl (redrawn W d) os) A1 A2 A3 A4 A5 A6 A7 p c1 c2 c3 c4 c5 c6 c7 p.tables[i].dname (Bj hBv (Bj hb.size (cH W d os))) (hPz.out.below ((aA hb hb.size d os).mono hBv))
  rwa [hkz] at this)
 obtain ⟨g2,o2,ecs2,hA2,hb2',hel2,hcell2,P1,e1,P2,e2,hf2,-,hQ1,hQ2⟩:=hPz.out.actions.2 k _ (Bk hk)
 obtain ⟨g0,o0,ecs,hA,hb,hel,hcell,B1,d1,B2,d2,B3,d3,hf,hn1,hn2,hS1,hS2,hS3⟩:=hPz.out.tables.2 i _ (Bk hi)
 have lm:=hPz.out.tables.len
 have la:=hPz.out.actions.len
 subst hA
 subst hA2
 subst hf
 subst hf2
 obtain ⟨y0,y1,y2,y3,y4⟩:=cN hcell
 obtain ⟨z0,z1,z2⟩:=dl hcell2
 have lk:=hQ1.len
 have lS:=hS3.len
 have hbw:g0<wv.heap.size:=by omega
 have hbw2:g2<wv.heap.size:=by omega
 have hil:(i:Int)<(p.tables.length:Int):=by omega
 have hkl:(k:Int)<(p.actions.length:Int):=by omega
 clear hcell hcell2 hel hel2 hPz hn1 hn2 hS1 hS2 hQ2 hkz
 generalize p.actions[k].params=params at*
 generalize p.actions[k].name=aname at*
 generalize p.actions[k].body.length=nbody at*
 generalize p.tables[i].dargs=dargs at*
 generalize p.tables[i].keys.length=nkeys at*
 generalize p.tables[i].actions.length=nact at*
 generalize p.tables[i].name=tname at*
 generalize p.tables[i].dname=tdname at*
 obtain ⟨wt,hwt,hst,hbt,hct,-⟩:=al wv #[.string tdname,.slice B3 dargs.length d3] 56
 have t0:wt.cell? ⟨wv.heap.size,0,none⟩=some (.string tdname):=hct 0
 have t1:wt.cell? ⟨wv.heap.size,1,none⟩=some (.slice B3 dargs.length d3):=hct 1
 have kt:=ab hbt
 have n1:=Bg m1 hbt.size
 have n2:=Bg m2 hbt.size
 have n3:=Bg hl3 hbt.size
 have n4:wv.heap.size<wt.heap.size:=by omega
 have n5:=Bg hbw2 hbt.size
 have hsw:wv.heap.size≤wt.heap.size:=by omega
 clear hct
 replace hst:=aa hst
 replace hS3:=aa hS3
 replace hQ1:=aa hQ1
 have hAc:∀ d os,Hid (Calls prog 38 #[.agg (aq p A1 A2 A3 (some ⟨g2,o2,none⟩) (some ⟨g0,o0,none⟩) A6 A7 c1 c2 c3 c4 c5 c6 c7),.string tdname] (Bl (redrawn wt d) os) _):=fun d os=>hAc0 d os wt hbt
 clear hAc0
 have hg:=ax (Bi wt.heap.size wt) (Bm _)
 go_enter func21,ntmps21
 go_wp2_with fail
 refine cD ?_
 repeat (any_goals (first|go_big_quiet_step (first|(go_at_call 38;with_reducible exact Bh (hAc _ _).out))|quiet_step (first|(go_at_call 38;with_reducible exact Bh (hAc _ _).out))))
 refine wpQuiet_nil ?_
 intro w2 hw2
 replace hw2:=ac hw2
 clear hg hAc
 go_wp2_with fail
 have hs0:=aa hw2
 go_loopw [155] (fun q wr=>∃ q':Nat,q'≤params.length∧q=.int .i64 q'∧Hid (aD gQ ((params.zip dargs).take q')=.ok ())∧Hid (Below wt.heap.size wt wr)) (fun q _=>params.length-(intOf q).toNat)
 case atStart=>exact ⟨0,Bo _,rfl,aa (by simp [aD]),hs0⟩
 case round=>
  clear hs0
  obtain ⟨q,hq,rfl,ht,hbr⟩:=hrel
  have hzr:=hbr.out.size
  have hc:=ab hbr.out
  have r1:=Bg n1 hzr
  have r2:=Bg n2 hzr
  have r3:=Bg n3 hzr
  have r4:=Bg n4 hzr
  have r5:=Bg n5 hzr
  by_cases hlt:q<params.length
  ·have hltd:q<dargs.length:=by omega
   have hltt:q<(params.zip dargs).length:=by rw [List.length_zip];omega
   obtain ⟨g3,o3,ecs3,hA3,hb3',hel3,hcell3,hf3,-,-⟩:=hQ1.out.2 q _ (Bk hlt)
   obtain ⟨g4,o4,ecs4,hA4,hb4',hel4,hcell4,hf4,hok⟩:=hS3.out.2 q _ (Bk hltd)
   subst hA3
   subst hA4
   subst hf3
   subst hf4
   obtain ⟨n,h1,h2,hn⟩:=eL hmw hlt
   have hltz:(q:Int)<(params.length:Int):=by omega
   have hltz2:(q:Int)<(dargs.length:Int):=by omega
   have hst:=aa (fun n h=>cS (f:=gQ) (n:=n) hltt ht.out h)
   have hnx:=aa (fun h=>cT (f:=gQ) hltt ht.out h)
   rw [List.getElem_zip] at hst hnx
   have hX0:=aa (fun (W:World)=>mQ dargs[q] n h1 h2 hok W)
   rw [show gQ (params[q],dargs[q])=dI dargs[q] (n:Int) from by unfold gQ;simp only;rw [hn]] at hst hnx
   generalize dI dargs[q] (n:Int)=r at hst hnx hX0
   rw [hn] at hcell3
   generalize params[q].1=fname at hcell3
   generalize dargs[q]=lit at hcell4 hX0 hok
   have x0':wv.cell? ⟨g3,o3+q*2,none⟩=some (.string fname):=by simpa using hcell3 0 _ rfl
   have x1':wv.cell? ⟨g3,o3+q*2+1,none⟩=some (.int .i64 n):=hcell3 1 _ rfl
   obtain ⟨l0,l1,l2⟩:=dl hcell4
   obtain ⟨wy,hwy,hzy,hby,hcy,-⟩:=al wr #[.string fname,.int .i64 (n:Int)] 84
   have y0':wy.cell? ⟨wr.heap.size,0,none⟩=some (.string fname):=hcy 0
   have y1':wy.cell? ⟨wr.heap.size,1,none⟩=some (.int .i64 n):=hcy 1
   have hbX:=hbr.out.trans (hby.mono hzr)
   have hc2:=ab hbX
   have q1:=Bg n1 hbX.size
   have q2:=Bg n2 hbX.size
   have q3:=Bg n3 hbX.size
   have q4:=Bg n4 hbX.size
   have q5:wr.heap.size<wy.heap.size:=by omega
   have f3:g3<wv.heap.size:=by omega
   have f4:g4<wv.heap.size:=by omega
   have f5:=Bg f3 hsw
   have f6:=Bg f4 hsw
   have f7:=Bg f4 (Bj hsw hbX.size)
   have f8:=Bg f3 (Bj hsw hzr)
   replace hbX:=aa hbX
   have hX:Hid (∀ W,Calls prog 36 #[.agg #[.int .i64 lit.1,.int .u64 lit.2.1,.int .u64 lit.2.2],.int .i64 (n:Int)] W _):=hX0
   clear hcell3 hcell4 hok hX0 hel3 hel4 hcy hby hn
   replace hzy:=aa hzy
   have hg:=ax (Bi wy.heap.size wy) (Bm _)
   go_wp2_with fail
   refine aS 7 (by kernel_rfl) (by kernel_rfl) ?_
   simp only [BE,Bz,BY,List.drop_zero]
   repeat (any_goals (first|go_big_quiet_step (fail)|quiet_step (fail)))
   refine wpQuiet_nil ?_
   intro w3 hw3
   have hb3:=hbX.out.trans (hw3.mono hbX.out.size)
   clear hg
   cases r with
   |error n7=>
    have hres:=aa (hst.out n7 rfl)
    have hX1:=aa (show Calls prog _ _ w3 fun e w'=>e=ji n7∧Below w3.heap.size w3 w' from hX.out w3)
    clear hnx hst hX
    go_wp2_with (go_at_call 36;refine hX1.out.mono ?_;rintro e w4 ⟨rfl,hw4⟩)
    exact ⟨rfl,by rw [hres.out];rfl,hw.out.trans ((hbt.trans ((hb3.trans (hw4.mono hb3.size)).mono hsw)).mono (by omega))⟩
   |ok u=>
    have hres:=aa (hnx.out rfl)
    have hX1:=aa (show Calls prog _ _ w3 fun e w'=>e=.returned (.tuple #[])∧Below w3.heap.size w3 w' from hX.out w3)
    clear hnx hst hX
    go_wp2_with (go_at_call 36;refine hX1.out.mono ?_;rintro e w4 ⟨rfl,hw4⟩)
    go_roundw
    case rel=>exact ⟨q+1,by omega,by go_num,hres,aa (hb3.trans (hw4.mono hb3.size))⟩
    case measure=>simp [intOf];omega
  ·have hfull:=aa (show aD gQ (params.zip dargs)=.ok () from by have h:=ht.out;rwa [BB (l:=params.zip dargs) (by rw [List.length_zip];omega)] at h)
   go_wp2
   (try simp only [Exit.inBlock,Exit.then])
   refine bodyPost_end (results_none rfl _ _ _) rfl ?_
   exact ⟨by rw [hfull.out];rfl,hw.out.trans ((hbt.trans (hbr.out.mono hsw)).mono (by omega))⟩
end Go.Proofs.YtbbdhknagofghaaGreat

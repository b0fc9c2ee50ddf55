import Derived.Test.YtbbdhknagofghaaGreatTcp38
set_option linter.all false
set_option maxHeartbeats 8000000
set_option maxRecDepth 100000
open Go.Proofs.Tryz
namespace Go.Proofs.YtbbdhknagofghaaGreat
open _root_.Nat renaming lt_of_lt_of_le→Bg, le_trans→Bj, le_refl→Bm, zero_le→Bo
open _root_.Go.Calls renaming regrown_of→Bh
open _root_.Go.RowKit.Below renaming refl→Bi
open _root_.List renaming getElem?_eq_getElem→Bk, length_append→Bq, getElem_mem→Bv, all_eq_true→Bw, take_of_length_le→BB, cons_append→BC, length_singleton→BG, nil_append→BH, getElem?_append_right→BN
open _root_.Go.Sort renaming grow→Bl
open _root_.Bool renaming and_eq_true→Bn
open Go.RowKit
theorem vT (A1 A2 A3 A4 A5 A6 A7:Option Addr) (p:Pg) (c1 c2 c3 c4 c5 c6 c7:Nat) (B:Nat) (hm:bg p=true) (i:Nat) (hi:i<p.states.length) (hks:∀ e∈p.states[i].keys,aT e=true) (b:Int) (s0 s1 s2 s3 s4 s5 s6 s7 s8 s9 s10 s11 s12 s13:Value) (w:World) (hB:B≤w.heap.size) (hP:bu w B A1 A2 A3 A4 A5 A6 A7 p):
  Calls prog 23 #[.agg (aq p A1 A2 A3 A4 A5 A6 A7 c1 c2 c3 c4 c5 c6 c7),.agg #[.int .u8 6,.int .i64 (i:Int),.int .i64 b,s0,s1,s2,s3,s4,s5,s6,s7,s8,s9,s10,s11,s12,s13]] w fun z7 w'=>z7=.returned (.int .i64 (bS (aD (dc p) p.states[i].keys)))∧Below w.heap.size w w':=by
 unfold aq
 obtain ⟨wu,hwu,hsu,wx,hwx,hsx,hw,cu,cx,-,hl1,hl2⟩:=kM w (aq p A1 A2 A3 A4 A5 A6 A7 c1 c2 c3 c4 c5 c6 c7) 30 #[.int .u8 6,.int .i64 (i:Int),.int .i64 b,s0,s1,s2,s3,s4,s5,s6,s7,s8,s9,s10,s11,s12,s13] 49
 obtain ⟨u0,u1,u2,u3,u4,u5,u6⟩:=aF cu
 obtain ⟨x0,x1,x2,x3,x4,x5,x6,x7,x8,x9,x10,x11,x12,x13,x14,x15,x16⟩:=bv cx
 clear cu cx
 have hBz:B≤wx.heap.size:=by omega
 have hPz:=aa (hP.below (hw.out.mono hB))
 have hX0:∀ e∈p.states[i].keys,∀ (ecs:List Value) (W:World),Below wx.heap.size wx W→dL wx B ecs e→Calls prog 41 #[.agg (aq p A1 A2 A3 A4 A5 A6 A7 c1 c2 c3 c4 c5 c6 c7),.agg ecs.toArray] W fun z w'=>z=.returned (.int .i64 (bS (dc p e)))∧Below W.heap.size W w':=
  fun e he ecs W hb hr=>oS A1 A2 A3 A4 A5 A6 A7 p c1 c2 c3 c4 c5 c6 c7 B (dH hm) e (hks e he) ecs W (Bj hBz hb.size) (hPz.out.below (hb.mono hBz)) (ai.keep hr fun q hq=>(hb.mono hBz).cell hq)
 obtain ⟨g0,o0,ecs,hA,hb,hel,hcell,B1,d1,B2,d2,B3,d3,hf,hn1,hn2,hS1,hS2,hS3⟩:=hPz.out.states.2 i _ (Bk hi)
 subst hA
 subst hf
 have y3:wx.cell? ⟨g0,o0+i*5+3,none⟩=some (.slice B2 p.states[i].keys.length d2):=hcell 3 _ rfl
 have lm:=hPz.out.states.len
 have lk:=hS2.len
 have hbw:g0<wx.heap.size:=by omega
 have hil:(i:Int)<(p.states.length:Int):=by omega
 have hne0:∀ e n,dc p e=.error n→n≠0:=fun e n h=>mU h
 replace hX0:=aa hX0
 clear hcell hel hS1 hS3 hks hPz hP
 generalize p.states[i].keys=keys at*
 replace hS2:=aa hS2
 have hs0:=aa (Bi wx.heap.size wx)
 go_enter func23,ntmps23
 go_wp2
 go_loopw [6] (fun j wr=>∃ k:Nat,k≤keys.length∧j=.int .i64 k∧Hid (aD (dc p) (keys.take k)=.ok ())∧Hid (Below wx.heap.size wx wr)) (fun j _=>keys.length-(intOf j).toNat)
 case atStart=>exact ⟨0,Bo _,rfl,aa (by simp [aD]),hs0⟩
 case round=>
  clear hs0
  obtain ⟨k,hk,rfl,ht,hbr⟩:=hrel
  have hzr:=hbr.out.size
  have hc:=ab hbr.out
  have r1:=Bg hl1 hzr
  have r2:=Bg hl2 hzr
  by_cases hlt:k<keys.length
  ·obtain ⟨b2,o2,ecs2,hA2,hb2,hel2,hcell2,hr2⟩:=hS2.out.2 k _ (Bk hlt)
   subst hA2
   have hltz:(k:Int)<(keys.length:Int):=by omega
   have hX1:=aa (fun (W:World) (hW:Below wx.heap.size wx W)=>hX0.out _ (Bv hlt) ecs2 W hW hr2)
   have hst:=aa (fun n h=>cS (f:=dc p) (n:=n) hlt ht.out h)
   have hnx:=aa (fun h=>cT (f:=dc p) hlt ht.out h)
   have hne:=hne0 keys[k]
   generalize dc p keys[k]=kr at hst hnx hX1 hne
   generalize keys[k]=e at hr2
   obtain ⟨ope,lite,heade,namee,hie,loe,argse⟩:=e
   obtain ⟨Ae,cape,rfl,-,-,-,-,-,-,hs'⟩:=RE.inv hr2
   have hl':=hs'.len
   obtain ⟨t0,t1,t2,t3,t4,t5,t6,t7,t8⟩:=cl hcell2
   have hb':b2<wx.heap.size:=by omega
   have hb'':=Bg hb' hzr
   have hX:∀ d os,Hid (Calls prog 41 #[.agg (aq p A1 A2 (some ⟨g0,o0,none⟩) A4 A5 A6 A7 c1 c2 c3 c4 c5 c6 c7),.agg (aO ope lite heade namee hie loe Ae argse.length cape)] (Bl (redrawn wr d) os) fun e w'=>e=.returned (.int .i64 (bS kr))∧Below (Bl (redrawn wr d) os).heap.size (Bl (redrawn wr d) os) w'):=fun d os=>aa (hX1.out _ (aA hbr.out hzr d os))
   have hg:=ax (Bi wr.heap.size wr) (Bm _)
   clear hcell2 hr2 hX1 hs' hel2
   cases kr with
   |error n7=>
    have hres:=aa (hst.out n7 rfl)
    have hnq:(n7 !=0)=true:=bne_iff_ne.2 (hne n7 rfl)
    replace hX:∀ d os,Hid (Calls prog _ _ (Bl (redrawn wr d) os) fun e w'=>e=.returned (.int .i64 n7)∧_):=hX
    clear hnx hst hne
    go_wp2_with fail
    refine cD ?_
    repeat (any_goals (first|go_big_quiet_step (first|(go_at_call 41;with_reducible exact Bh (hX _ _).out))|quiet_step (first|(go_at_call 41;with_reducible exact Bh (hX _ _).out))))
    refine wpQuiet_nil ?_
    intro w5 hw5
    replace hw5:=ac hw5
    go_wp2
    go_ret
    exact ⟨by rw [hres.out];rfl,hw.out.trans ((hbr.out.trans (hw5.mono hzr)).mono (by omega))⟩
   |ok u=>
    have hres:=aa (hnx.out rfl)
    replace hX:∀ d os,Hid (Calls prog _ _ (Bl (redrawn wr d) os) fun e w'=>e=.returned (.int .i64 0)∧_):=hX
    clear hnx hst hne
    go_wp2_with fail
    refine cD ?_
    repeat (any_goals (first|go_big_quiet_step (first|(go_at_call 41;with_reducible exact Bh (hX _ _).out))|quiet_step (first|(go_at_call 41;with_reducible exact Bh (hX _ _).out))))
    refine wpQuiet_nil ?_
    intro w5 hw5
    replace hw5:=ac hw5
    go_wp2
    go_roundw
    case rel=>exact ⟨k+1,by omega,by go_num,hres,aa (hbr.out.trans (hw5.mono hzr))⟩
    case measure=>simp [intOf];omega
  ·have hfull:=aa (show aD (dc p) keys=.ok () from by have h:=ht.out;rwa [BB (l:=keys) (by omega)] at h)
   go_wp2
   go_ret
   exact ⟨by rw [hfull.out];rfl,hw.out.trans (hbr.out.mono (by omega))⟩
theorem vU (A1 A2 A3 A4 A5 A6 A7:Option Addr) (p:Pg) (c1 c2 c3 c4 c5 c6 c7:Nat) (B:Nat) (hm:bg p=true) (i:Nat) (hi:i<p.states.length) (j:Nat) (hj:j<p.states[i].cases_.length) (hks:∀ e∈p.states[i].keys,aT e=true) (hkeys:∀ e∈p.states[i].keys,dc p e=.ok ()) (hlen:p.states[i].cases_[j].sets.length≤p.states[i].keys.length) (s0 s1 s2 s3 s4 s5 s6 s7 s8 s9 s10 s11 s12 s13:Value) (w:World) (hB:B≤w.heap.size) (hP:bu w B A1 A2 A3 A4 A5 A6 A7 p):
  Calls prog 23 #[.agg (aq p A1 A2 A3 A4 A5 A6 A7 c1 c2 c3 c4 c5 c6 c7),.agg #[.int .u8 7,.int .i64 (i:Int),.int .i64 (j:Int),s0,s1,s2,s3,s4,s5,s6,s7,s8,s9,s10,s11,s12,s13]] w fun z7 w'=>z7=.returned (.int .i64 (bS (aD (fu p) (p.states[i].cases_[j].sets.zip p.states[i].keys))))∧Below w.heap.size w w':=by
 unfold aq
 obtain ⟨wu,hwu,hsu,wx,hwx,hsx,hw,cu,cx,-,hl1,hl2⟩:=kM w (aq p A1 A2 A3 A4 A5 A6 A7 c1 c2 c3 c4 c5 c6 c7) 30 #[.int .u8 7,.int .i64 (i:Int),.int .i64 (j:Int),s0,s1,s2,s3,s4,s5,s6,s7,s8,s9,s10,s11,s12,s13] 49
 obtain ⟨u0,u1,u2,u3,u4,u5,u6⟩:=aF cu
 obtain ⟨x0,x1,x2,x3,x4,x5,x6,x7,x8,x9,x10,x11,x12,x13,x14,x15,x16⟩:=bv cx
 clear cu cx
 have hBz:B≤wx.heap.size:=by omega
 have hPz:=aa (hP.below (hw.out.mono hB))
 obtain ⟨g0,o0,ecs,hA,hb,hel,hcell,B1,d1,B2,d2,B3,d3,hf,hn1,hn2,hS1,hS2,hS3⟩:=hPz.out.states.2 i _ (Bk hi)
 have lm:=hPz.out.states.len
 have lk:=hS2.len
 have lc:=hS3.len
 subst hA
 subst hf
 obtain ⟨y0,y1,y2,y3,y4⟩:=cN hcell
 obtain ⟨g1,o1,ecs1,hA1,hb1,hel1,hcell1,P1,e1,hf1,-,hQ⟩:=hS3.2 j _ (Bk hj)
 subst hA1
 subst hf1
 obtain ⟨z0,z1,z2⟩:=dl hcell1
 have ls:=hQ.len
 have hbw:g0<wx.heap.size:=by omega
 have hbw1:g1<wx.heap.size:=by omega
 have hil:(i:Int)<(p.states.length:Int):=by omega
 have hjl:(j:Int)<(p.states[i].cases_.length:Int):=by omega
 have hb0:Below wx.heap.size wx wx:=Bi _ _
 have hX:=fun d os=>aa (pS A1 A2 (some ⟨g0,o0,none⟩) A4 A5 A6 A7 p c1 c2 c3 c4 c5 c6 c7 B hm p.states[i].cases_[j].sets p.states[i].keys hks hkeys hlen p.states[i].name p.states[i].dest p.states[i].cases_[j].dest p.states[i].cases_[j].dflt B1 B2 (some ⟨g1,o1,none⟩) P1 p.states[i].takes.length d1 d2 p.states[i].cases_.length d3 e1 _ (Bj hBz (cH wx d os)) (hPz.out.below ((below_regrown wx d os).mono hBz)) (hS2.below ai ((below_regrown wx d os).mono hBz)) (hQ.below jW ((below_regrown wx d os).mono hBz)))
 have hg:=ax hb0 (Bm _)
 generalize bS (aD (fu p) (p.states[i].cases_[j].sets.zip p.states[i].keys))=r at hX ⊢
 clear hcell hel hcell1 hel1 hS1 hS3 hks hkeys hPz hn1 hn2 hP hS2 hQ hb0
 generalize p.states[i].cases_[j].sets.length=nsets at*
 generalize p.states[i].cases_[j].dflt=cd at*
 generalize p.states[i].cases_[j].dest=cdest at*
 generalize p.states[i].keys.length=nkeys at*
 generalize p.states[i].cases_.length=ncas at*
 generalize p.states[i].takes.length=ntak at*
 generalize p.states[i].name=sname at*
 generalize p.states[i].dest=sdest at*
 go_enter func23,ntmps23
 go_wp2_with fail
 refine cD ?_
 repeat (any_goals (first|go_big_quiet_step (first|(go_at_call 42;with_reducible exact Bh (hX _ _).out))|quiet_step (first|(go_at_call 42;with_reducible exact Bh (hX _ _).out))))
 refine wpQuiet_nil ?_
 intro w5 hw5
 replace hw5:=ac hw5
 go_wp2
 go_ret
 exact ⟨rfl,hw.out.trans (hw5.mono (by omega))⟩
theorem vV (A1 A2 A3 A4 A5 A6 A7:Option Addr) (p:Pg) (c1 c2 c3 c4 c5 c6 c7:Nat) (B:Nat) (hm:bg p=true) (a b:Int) (st:St) (he:∀ kind head name e thn els,st=.mk kind head name e thn els→(kind=1∨kind=2∨kind=5→aT e=true)∧(kind=1→rg p head name)) (s0 s1 s2 s3 s4 s5 s6 s7 s8 s9 s10 s11 s12 s13:Value) (w:World) (hB:B≤w.heap.size) (hP:bu w B A1 A2 A3 A4 A5 A6 A7 p) (hst:dR w B [s0,s1,s2,s3,s4,s5,s6,s7,s8,s9,s10,s11,s12,s13] st):
  Calls prog 23 #[.agg (aq p A1 A2 A3 A4 A5 A6 A7 c1 c2 c3 c4 c5 c6 c7),.agg #[.int .u8 10,.int .i64 a,.int .i64 b,s0,s1,s2,s3,s4,s5,s6,s7,s8,s9,s10,s11,s12,s13]] w fun z7 w'=>z7=.returned (.int .i64 (bS (lj p a st)))∧Below w.heap.size w w':=by
 unfold aq
 obtain ⟨wu,hwu,hsu,wx,hwx,hsx,hw,cu,cx,-,hl1,hl2⟩:=kM w (aq p A1 A2 A3 A4 A5 A6 A7 c1 c2 c3 c4 c5 c6 c7) 30 #[.int .u8 10,.int .i64 a,.int .i64 b,s0,s1,s2,s3,s4,s5,s6,s7,s8,s9,s10,s11,s12,s13] 49
 obtain ⟨u0,u1,u2,u3,u4,u5,u6⟩:=aF cu
 obtain ⟨x0,x1,x2,x3,x4,x5,x6,x7,x8,x9,x10,x11,x12,x13,x14,x15,x16⟩:=bv cx
 clear cu cx
 have hBz:B≤wx.heap.size:=by omega
 have hPz:=aa (hP.below (hw.out.mono hB))
 have hX:=aa (show Calls prog 43 #[.agg (aq p A1 A2 A3 A4 A5 A6 A7 c1 c2 c3 c4 c5 c6 c7),.int .i64 a,.agg #[s0,s1,s2,s3,s4,s5,s6,s7,s8,s9,s10,s11,s12,s13]] wx _ from tB A1 A2 A3 A4 A5 A6 A7 p c1 c2 c3 c4 c5 c6 c7 a B hm st he [s0,s1,s2,s3,s4,s5,s6,s7,s8,s9,s10,s11,s12,s13] wx hBz hPz.out (be.keep hst fun q hq=>(hw.out.mono hB).cell hq))
 obtain ⟨kind,head,name,e,thn,els⟩:=st
 obtain ⟨es,A,cap,A',cap',hcs,-,-,-,hE,hT,hL⟩:=RS.inv hst
 have l1:=hT.len
 have l2:=hL.len
 obtain ⟨ope,lite,heade,namee,hie,loe,argse⟩:=e
 obtain ⟨Ae,cape,rfl,-,-,-,-,-,-,hs'⟩:=RE.inv hE
 have hl':=hs'.len
 simp only [yu,uA,BC,BH,List.cons.injEq,and_true] at hcs
 obtain ⟨rfl,rfl,rfl,rfl,rfl,rfl,rfl,rfl,rfl,rfl,rfl,rfl,rfl,rfl⟩:=hcs
 generalize bS _=r at hX ⊢
 clear hst hE hT hL hs' hPz hP he
 go_enter func23,ntmps23
 go_wp2_with (go_at_call 43;refine hX.out.mono ?_;rintro e w1 ⟨rfl,hb1⟩)
 go_ret
 exact ⟨rfl,hw.out.trans (hb1.mono (by omega))⟩
theorem vW (A1 A2 A3 A4 A5 A6 A7:Option Addr) (p:Pg) (c1 c2 c3 c4 c5 c6 c7:Nat) (B:Nat) (hm:bg p=true) (k a b:Int) (n6:¬k=6) (n7:¬k=7) (n10:¬k=10) (n12:¬k=12) (n14:¬k=14) (s0 s1 s2 s3 s4 s5 s6 s7 s8 s9 s10 s11 s12 s13:Value) (w:World) (hB:B≤w.heap.size) (hP:bu w B A1 A2 A3 A4 A5 A6 A7 p):
  Calls prog 23 #[.agg (aq p A1 A2 A3 A4 A5 A6 A7 c1 c2 c3 c4 c5 c6 c7),.agg #[.int .u8 k,.int .i64 a,.int .i64 b,s0,s1,s2,s3,s4,s5,s6,s7,s8,s9,s10,s11,s12,s13]] w fun z7 w'=>z7=.returned (.int .i64 (bS ((.ok ():Rs Unit))))∧Below w.heap.size w w':=by
 unfold aq
 obtain ⟨wu,hwu,hsu,wx,hwx,hsx,hw,cu,cx,-,hl1,hl2⟩:=kM w (aq p A1 A2 A3 A4 A5 A6 A7 c1 c2 c3 c4 c5 c6 c7) 30 #[.int .u8 k,.int .i64 a,.int .i64 b,s0,s1,s2,s3,s4,s5,s6,s7,s8,s9,s10,s11,s12,s13] 49
 obtain ⟨u0,u1,u2,u3,u4,u5,u6⟩:=aF cu
 obtain ⟨x0,x1,x2,x3,x4,x5,x6,x7,x8,x9,x10,x11,x12,x13,x14,x15,x16⟩:=bv cx
 clear cu cx
 have hBz:B≤wx.heap.size:=by omega
 have hPz:=aa (hP.below (hw.out.mono hB))
 have i6:(k==6)=false:=beq_eq_false_iff_ne.2 n6
 have i7:(k==7)=false:=beq_eq_false_iff_ne.2 n7
 have i10:(k==10)=false:=beq_eq_false_iff_ne.2 n10
 have i12:(k==12)=false:=beq_eq_false_iff_ne.2 n12
 have i14:(k==14)=false:=beq_eq_false_iff_ne.2 n14
 clear hPz hP n6 n7 n10 n12 n14
 go_enter func23,ntmps23
 go_wp2
 go_ret
 exact ⟨rfl,hw.out⟩
theorem yd (A1 A2 A3 A4 A5 A6 A7:Option Addr) (p:Pg) (c1 c2 c3 c4 c5 c6 c7:Nat) (B:Nat) (hm:bg p=true) (i:Nat) (hi:i<p.tables.length) (j:Nat) (hj:j<p.tables[i].keys.length) (hek:aT p.tables[i].keys[j].e=true) (s0 s1 s2 s3 s4 s5 s6 s7 s8 s9 s10 s11 s12 s13:Value) (w:World) (hB:B≤w.heap.size) (hP:bu w B A1 A2 A3 A4 A5 A6 A7 p):
  Calls prog 23 #[.agg (aq p A1 A2 A3 A4 A5 A6 A7 c1 c2 c3 c4 c5 c6 c7),.agg #[.int .u8 12,.int .i64 (i:Int),.int .i64 (j:Int),s0,s1,s2,s3,s4,s5,s6,s7,s8,s9,s10,s11,s12,s13]] w fun z7 w'=>z7=.returned (.int .i64 (bS (eG p p.tables[i].keys j p.tables[i].keys[j])))∧Below w.heap.size w w':=by
 unfold aq
 obtain ⟨wu,hwu,hsu,wx,hwx,hsx,hw,cu,cx,-,hl1,hl2⟩:=kM w (aq p A1 A2 A3 A4 A5 A6 A7 c1 c2 c3 c4 c5 c6 c7) 30 #[.int .u8 12,.int .i64 (i:Int),.int .i64 (j:Int),s0,s1,s2,s3,s4,s5,s6,s7,s8,s9,s10,s11,s12,s13] 49
 obtain ⟨u0,u1,u2,u3,u4,u5,u6⟩:=aF cu
 obtain ⟨x0,x1,x2,x3,x4,x5,x6,x7,x8,x9,x10,x11,x12,x13,x14,x15,x16⟩:=bv cx
 clear cu cx
 have hBz:B≤wx.heap.size:=by omega
 have hPz:=aa (hP.below (hw.out.mono hB))
 have hX0:∀ (ecs:List Value) (W:World),Below wx.heap.size wx W→dL wx B ecs p.tables[i].keys[j].e→Calls prog 41 #[.agg (aq p A1 A2 A3 A4 A5 A6 A7 c1 c2 c3 c4 c5 c6 c7),.agg ecs.toArray] W fun z w'=>z=.returned (.int .i64 (bS (dc p p.tables[i].keys[j].e)))∧Below W.heap.size W w':=
  fun ecs W hb hr=>oS A1 A2 A3 A4 A5 A6 A7 p c1 c2 c3 c4 c5 c6 c7 B (dH hm) _ hek ecs W (Bj hBz hb.size) (hPz.out.below (hb.mono hBz)) (ai.keep hr fun q hq=>(hb.mono hBz).cell hq)
 obtain ⟨g0,o0,ecs,hA,hb,hel,hcell,B1,d1,B2,d2,B3,d3,hf,hn1,hn2,hS1,hS2,hS3⟩:=hPz.out.tables.2 i _ (Bk hi)
 subst hA
 subst hf
 obtain ⟨y0,y1,y2,y3,y4⟩:=cN hcell
 have lm:=hPz.out.tables.len
 have lk:=hS1.len
 have hbw:g0<wx.heap.size:=by omega
 have hil:(i:Int)<(p.tables.length:Int):=by omega
 obtain ⟨g1,o1,ecs1,hA1,hb1,hel1,hcell1,fcs,hfc,-,hr1⟩:=hS1.2 j _ (Bk hj)
 subst hA1
 replace hX0:=aa (fun (W:World) (hW:Below wx.heap.size wx W)=>hX0 fcs W hW hr1)
 have hjl:(j:Int)<(p.tables[i].keys.length:Int):=by omega
 have hbw1:g1<wx.heap.size:=by omega
 have hv:=aa (show eG p p.tables[i].keys j p.tables[i].keys[j]=(match dc p p.tables[i].keys[j].e with| .error n=>.error n| .ok _=>aD (c9 p.tables[i].keys[j].kind) (p.tables[i].keys.take j)) from rfl)
 have hne:=fun n (h:dc p p.tables[i].keys[j].e=.error n)=>mU h
 generalize eG p p.tables[i].keys j p.tables[i].keys[j]=r at hv ⊢
 generalize dc p p.tables[i].keys[j].e=ra at hX0 hv hne
 obtain ⟨keyj,hkeyj⟩:∃ q,p.tables[i].keys[j]=q:=⟨_,rfl⟩
 rw [hkeyj] at hfc hr1 hv
 obtain ⟨ej,kj⟩:=keyj
 simp only at hfc hr1 hv
 obtain ⟨opa,lita,heada,namea,hia,loa,argsa⟩:=ej
 obtain ⟨Aa,capa,rfl,-,-,-,-,-,-,hsa'⟩:=RE.inv hr1
 have la:=hsa'.len
 subst hfc
 obtain ⟨z0,z1,z2,z3,z4,z5,z6,z7,z8,z9⟩:=jU hcell1
 have hX:∀ d os,Hid (Calls prog 41 #[.agg (aq p A1 A2 A3 A4 (some ⟨g0,o0,none⟩) A6 A7 c1 c2 c3 c4 c5 c6 c7),.agg (aO opa lita heada namea hia loa Aa argsa.length capa)] (Bl (redrawn wx d) os) fun e w'=>e=.returned (.int .i64 (bS ra))∧Below (Bl (redrawn wx d) os).heap.size (Bl (redrawn wx d) os) w'):=fun d os=>aa (hX0.out _ (below_regrown wx d os))
 clear hX0 hr1 hsa' hcell hcell1 hel hel1 hkeyj hPz hP hek hn1 hn2 hS2 hS3
 generalize p.tables[i].keys=keys at*
 generalize p.tables[i].actions.length=nact at*
 generalize p.tables[i].dargs.length=ndar at*
 generalize p.tables[i].name=tname at*
 generalize p.tables[i].dname=tdname at*
 replace hS1:=aa hS1
 have hg:=ax (Bi wx.heap.size wx) (Bm _)
 go_enter func23,ntmps23
 cases ra with
 |error n7=>
  have hnq:(n7 !=0)=true:=bne_iff_ne.2 (hne n7 rfl)
  replace hX:∀ d os,Hid (Calls prog _ _ (Bl (redrawn wx d) os) fun e w'=>e=.returned (.int .i64 n7)∧_):=hX
  go_wp2_with fail
  refine cD ?_
  repeat (any_goals (first|go_big_quiet_step (first|(go_at_call 41;with_reducible exact Bh (hX _ _).out))|quiet_step (first|(go_at_call 41;with_reducible exact Bh (hX _ _).out))))
  refine wpQuiet_nil ?_
  intro w5 hw5
  replace hw5:=ac hw5
  go_wp2
  go_ret
  exact ⟨by rw [hv.out];rfl,hw.out.trans (hw5.mono (by omega))⟩
 |ok u=>
  replace hX:∀ d os,Hid (Calls prog _ _ (Bl (redrawn wx d) os) fun e w'=>e=.returned (.int .i64 0)∧_):=hX
  go_wp2_with fail
  refine cD ?_
  repeat (any_goals (first|go_big_quiet_step (first|(go_at_call 41;with_reducible exact Bh (hX _ _).out))|quiet_step (first|(go_at_call 41;with_reducible exact Bh (hX _ _).out))))
  refine wpQuiet_nil ?_
  intro w5 hw5
  replace hw5:=ac hw5
  clear hX hne hg
  have hs0:=aa hw5
  go_wp2_with fail
  go_loopw [10] (fun q wr=>∃ k:Nat,k≤j∧q=.int .i64 k∧Hid (aD (c9 kj) (keys.take k)=.ok ())∧Hid (Below wx.heap.size wx wr)) (fun q _=>j-(intOf q).toNat)
  case atStart=>exact ⟨0,Bo _,rfl,aa (by simp [aD]),hs0⟩
  case round=>
   clear hs0 hw5
   obtain ⟨k,hk,rfl,ht,hbr⟩:=hrel
   have hzr:=hbr.out.size
   have hc:=ab hbr.out
   have r1:=Bg hl1 hzr
   have r2:=Bg hl2 hzr
   by_cases hlt:k<j
   ·have hltk:k<keys.length:=by omega
    have hltz:(k:Int)<(j:Int):=by omega
    have hltz2:(k:Int)<(keys.length:Int):=by omega
    obtain ⟨g2,o2,ecs2,hA2,hb2,hel2,hcell2,fcs2,hfc2,-,hr2⟩:=hS1.out.2 k _ (Bk hltk)
    obtain ⟨rfl,rfl⟩:g1=g2∧o1=o2:=by simpa using hA2
    have h9:fcs2.length=9:=by have:=hel2;rw [hfc2,Bq,BG] at this;omega
    have y9:wx.cell? ⟨g1,o1+k*10+9,none⟩=some (.int .u8 keys[k].kind):=hcell2 9 _ (by rw [hfc2,BN (by omega),h9];rfl)
    have hstop:=aa (fun (h1:keys[k].kind=2) (h2:kj=2)=>(show aD (c9 kj) (keys.take j)=.error 8 from cS (f:=c9 kj) (l:=keys.take j) (k:=k) (by rw [List.length_take];omega) (by rw [List.take_take,Nat.min_eq_left (by omega)];exact ht.out) (by rw [List.getElem_take];exact if_pos ⟨h1,h2⟩)))
    have hnx:=aa (fun h=>cT (f:=c9 kj) (l:=keys) hltk ht.out h)
    have htw:=aa (show c9 kj keys[k]=if keys[k].kind=2∧kj=2 then .error 8 else .ok () from rfl)
    generalize c9 kj keys[k]=tw at hnx htw
    generalize keys[k].kind=kk at y9 htw hstop
    clear hcell2 hfc2 hr2 hel2 hb2 hA2 h9
    by_cases hkk:kk=2
    ·by_cases hkj:kj=2
     ·have htake:=aa (hstop.out hkk hkj)
      clear hstop htw hnx
      subst hkk hkj
      go_wp2
      go_ret
      exact ⟨by rw [hv.out];show _=Ending.returned (.int .i64 (bS (aD (c9 2) (keys.take j))));rw [htake.out];rfl,hw.out.trans (hbr.out.mono (by omega))⟩
     ·have hkq:(kj==2)=false:=beq_eq_false_iff_ne.2 hkj
      have hres:=aa (hnx.out (htw.out.trans (if_neg fun h=>hkj h.2)))
      subst hkk
      clear hnx htw hkj hstop
      go_wp2
      go_roundw
      case rel=>exact ⟨k+1,by omega,by go_num,hres,hbr⟩
      case measure=>simp [intOf];omega
    ·have hkq:(kk==2)=false:=beq_eq_false_iff_ne.2 hkk
     have hres:=aa (hnx.out (htw.out.trans (if_neg fun h=>hkk h.1)))
     clear hnx htw hkk hstop
     go_wp2
     go_roundw
     case rel=>exact ⟨k+1,by omega,by go_num,hres,hbr⟩
     case measure=>simp [intOf];omega
   ·have hkj:k=j:=by omega
    subst hkj
    go_wp2
    go_ret
    exact ⟨by rw [hv.out];show _=Ending.returned (.int .i64 (bS (aD (c9 kj) (keys.take k))));rw [ht.out];rfl,hw.out.trans (hbr.out.mono (by omega))⟩
theorem pT (A1 A2 A3 A4 A5 A6 A7:Option Addr) (p:Pg) (c1 c2 c3 c4 c5 c6 c7:Nat) (B:Nat) (hm:bg p=true) (i:Nat) (hi:i<p.tables.length) (b:Int) (k:Nat) (hk:k<p.actions.length) (hkz:bz p p.tables[i].dname=(k:Int)) (hlen:p.actions[k].params.length=p.tables[i].dargs.length) (s0 s1 s2 s3 s4 s5 s6 s7 s8 s9 s10 s11 s12 s13:Value) (w:World) (hB:B≤w.heap.size) (hP:bu w B A1 A2 A3 A4 A5 A6 A7 p):
  Calls prog 23 #[.agg (aq p A1 A2 A3 A4 A5 A6 A7 c1 c2 c3 c4 c5 c6 c7),.agg #[.int .u8 14,.int .i64 (i:Int),.int .i64 b,s0,s1,s2,s3,s4,s5,s6,s7,s8,s9,s10,s11,s12,s13]] w fun z7 w'=>z7=.returned (.int .i64 (bS (aD gQ (p.actions[k].params.zip p.tables[i].dargs))))∧Below w.heap.size w w':=by
 unfold aq
 obtain ⟨wu,hwu,hsu,wx,hwx,hsx,hw,cu,cx,-,hl1,hl2⟩:=kM w (aq p A1 A2 A3 A4 A5 A6 A7 c1 c2 c3 c4 c5 c6 c7) 30 #[.int .u8 14,.int .i64 (i:Int),.int .i64 b,s0,s1,s2,s3,s4,s5,s6,s7,s8,s9,s10,s11,s12,s13] 49
 obtain ⟨u0,u1,u2,u3,u4,u5,u6⟩:=aF cu
 obtain ⟨x0,x1,x2,x3,x4,x5,x6,x7,x8,x9,x10,x11,x12,x13,x14,x15,x16⟩:=bv cx
 clear cu cx
 have hBz:B≤wx.heap.size:=by omega
 have hPz:=aa (hP.below (hw.out.mono hB))
 have hmw:p.actions[k].params.all gB=true:=by
  have hm':=hm
  simp only [bg,Bn] at hm'
  obtain ⟨⟨⟨⟨⟨⟨⟨_,_⟩,_⟩,_⟩,ha⟩,_⟩,_⟩,_⟩:=hm'
  have had:=Bw.1 ha _ (Bv hk)
  simp only [nB,Bn] at had
  exact had.1.2
 have hAc0:∀ d os,∀ W,Below wx.heap.size wx W→Hid (Calls prog 44 #[.agg (aq p A1 A2 A3 A4 A5 A6 A7 c1 c2 c3 c4 c5 c6 c7),.string p.tables[i].dname] (Bl (redrawn W d) os) fun e w'=>e=.returned (.int .i64 (k:Int))∧Below (Bl (redrawn W d) os).heap.size (Bl (redrawn W d) os) w'):=fun d os W hb=>aa (by
  have:=eK (Bl (redrawn W d) os) A1 A2 A3 A4 A5 A6 A7 p c1 c2 c3 c4 c5 c6 c7 p.tables[i].dname (Bj hBz (Bj hb.size (cH W d os))) (hPz.out.below ((aA hb hb.size d os).mono hBz))
  rwa [hkz] at this)
 obtain ⟨g2,o2,ecs2,hA2,hb2',hel2,hcell2,P1,e1,P2,e2,hf2,-,hQ1,hQ2⟩:=hPz.out.actions.2 k _ (Bk hk)
 obtain ⟨g0,o0,ecs,hA,hb,hel,hcell,B1,d1,B2,d2,B3,d3,hf,hn1,hn2,hS1,hS2,hS3⟩:=hPz.out.tables.2 i _ (Bk hi)
 have lm:=hPz.out.tables.len
 have la:=hPz.out.actions.len
 subst hA
 subst hA2
 subst hf
 subst hf2
 obtain ⟨y0,y1,y2,y3,y4⟩:=cN hcell
 obtain ⟨z0,z1,z2⟩:=dl hcell2
 have lk:=hQ1.len
 have lS:=hS3.len
 have hbw:g0<wx.heap.size:=by omega
 have hbw2:g2<wx.heap.size:=by omega
 have hil:(i:Int)<(p.tables.length:Int):=by omega
 have hkl:(k:Int)<(p.actions.length:Int):=by omega
 clear hcell hcell2 hel hel2 hPz hP hn1 hn2 hS1 hS2 hQ2 hkz
 generalize p.actions[k].params=params at*
 generalize p.actions[k].name=aname at*
 generalize p.actions[k].body.length=nbody at*
 generalize p.tables[i].dargs=dargs at*
 generalize p.tables[i].keys.length=nkeys at*
 generalize p.tables[i].actions.length=nact at*
 generalize p.tables[i].name=tname at*
 generalize p.tables[i].dname=tdname at*
 obtain ⟨wt,hwt,hst,hbt,hct,-⟩:=al wx #[.string tdname,.slice B3 dargs.length d3] 56
 have t0:wt.cell? ⟨wx.heap.size,0,none⟩=some (.string tdname):=hct 0
 have t1:wt.cell? ⟨wx.heap.size,1,none⟩=some (.slice B3 dargs.length d3):=hct 1
 have kt:=ab hbt
 have n1:=Bg hl1 hbt.size
 have n2:=Bg hl2 hbt.size
 have n4:wx.heap.size<wt.heap.size:=by omega
 have n5:=Bg hbw2 hbt.size
 have hsw:wx.heap.size≤wt.heap.size:=by omega
 clear hct
 replace hst:=aa hst
 replace hS3:=aa hS3
 replace hQ1:=aa hQ1
 have hAc:∀ d os,Hid (Calls prog 44 #[.agg (aq p A1 A2 A3 (some ⟨g2,o2,none⟩) (some ⟨g0,o0,none⟩) A6 A7 c1 c2 c3 c4 c5 c6 c7),.string tdname] (Bl (redrawn wt d) os) _):=fun d os=>hAc0 d os wt hbt
 clear hAc0
 have hg:=ax (Bi wt.heap.size wt) (Bm _)
 go_enter func23,ntmps23
 go_wp2_with fail
 refine cD ?_
 repeat (any_goals (first|go_big_quiet_step (first|(go_at_call 44;with_reducible exact Bh (hAc _ _).out))|quiet_step (first|(go_at_call 44;with_reducible exact Bh (hAc _ _).out))))
 refine wpQuiet_nil ?_
 intro w2 hw2
 replace hw2:=ac hw2
 clear hg hAc
 go_wp2_with fail
 have hs0:=aa hw2
 go_loopw [13] (fun q wr=>∃ q':Nat,q'≤params.length∧q=.int .i64 q'∧Hid (aD gQ ((params.zip dargs).take q')=.ok ())∧Hid (Below wt.heap.size wt wr)) (fun q _=>params.length-(intOf q).toNat)
 case atStart=>exact ⟨0,Bo _,rfl,aa (by simp [aD]),hs0⟩
 case round=>
  clear hs0
  obtain ⟨q,hq,rfl,ht,hbr⟩:=hrel
  have hzr:=hbr.out.size
  have hc:=ab hbr.out
  have r1:=Bg n1 hzr
  have r2:=Bg n2 hzr
  have r4:=Bg n4 hzr
  have r5:=Bg n5 hzr
  by_cases hlt:q<params.length
  ·have hltd:q<dargs.length:=by omega
   have hltt:q<(params.zip dargs).length:=by rw [List.length_zip];omega
   obtain ⟨g3,o3,ecs3,hA3,hb3',hel3,hcell3,hf3,-,-⟩:=hQ1.out.2 q _ (Bk hlt)
   obtain ⟨g4,o4,ecs4,hA4,hb4',hel4,hcell4,hf4,hok⟩:=hS3.out.2 q _ (Bk hltd)
   subst hA3
   subst hA4
   subst hf3
   subst hf4
   obtain ⟨n,h1,h2,hn⟩:=eL hmw hlt
   have hltz:(q:Int)<(params.length:Int):=by omega
   have hltz2:(q:Int)<(dargs.length:Int):=by omega
   have hst:=aa (fun n h=>cS (f:=gQ) (n:=n) hltt ht.out h)
   have hnx:=aa (fun h=>cT (f:=gQ) hltt ht.out h)
   rw [List.getElem_zip] at hst hnx
   have hX0:=fun (W:World)=>ky dargs[q] n h1 h2 hok W
   have hrv:=aa (fun (m:Int) (h:dI dargs[q] (n:Int)=.error m)=>na h)
   rw [show gQ (params[q],dargs[q])=dI dargs[q] (n:Int) from by unfold gQ;simp only;rw [hn]] at hst hnx
   generalize dI dargs[q] (n:Int)=r at hst hnx hX0 hrv
   rw [hn] at hcell3
   generalize params[q].1=fname at hcell3
   generalize dargs[q]=lit at hcell4 hX0 hok
   have x0':wx.cell? ⟨g3,o3+q*2,none⟩=some (.string fname):=by simpa using hcell3 0 _ rfl
   have x1':wx.cell? ⟨g3,o3+q*2+1,none⟩=some (.int .i64 n):=hcell3 1 _ rfl
   obtain ⟨l0,l1,l2⟩:=dl hcell4
   have f3:g3<wx.heap.size:=by omega
   have f4:g4<wx.heap.size:=by omega
   have f5:=Bg f3 hsw
   have f6:=Bg f4 hsw
   have f7:=Bg f5 hzr
   have f8:=Bg f6 hzr
   have hX:=fun d os=>aa (hX0 (Bl (redrawn wr d) os))
   have hg:=ax (Bi wr.heap.size wr) (Bm _)
   clear hcell3 hcell4 hok hel3 hel4 hn hX0
   cases r with
   |error n7=>
    have hres:=aa (hst.out n7 rfl)
    have hnq:(n7 !=0)=true:=bne_iff_ne.2 (hrv.out n7 rfl)
    replace hX:∀ d os,Hid (Calls prog _ _ (Bl (redrawn wr d) os) fun e w'=>e=.returned (.int .i64 n7)∧_):=hX
    clear hnx hst hrv
    go_wp2_with fail
    refine cD ?_
    repeat (any_goals (first|go_big_quiet_step (first|(go_at_call 45;with_reducible exact Bh (hX _ _).out))|quiet_step (first|(go_at_call 45;with_reducible exact Bh (hX _ _).out))))
    refine wpQuiet_nil ?_
    intro w5 hw5
    replace hw5:=ac hw5
    go_wp2
    go_ret
    exact ⟨by rw [hres.out];rfl,hw.out.trans ((hbt.trans ((hbr.out.trans (hw5.mono hzr)).mono hsw)).mono (by omega))⟩
   |ok u=>
    have hres:=aa (hnx.out rfl)
    replace hX:∀ d os,Hid (Calls prog _ _ (Bl (redrawn wr d) os) fun e w'=>e=.returned (.int .i64 0)∧_):=hX
    clear hnx hst hrv
    go_wp2_with fail
    refine cD ?_
    repeat (any_goals (first|go_big_quiet_step (first|(go_at_call 45;with_reducible exact Bh (hX _ _).out))|quiet_step (first|(go_at_call 45;with_reducible exact Bh (hX _ _).out))))
    refine wpQuiet_nil ?_
    intro w5 hw5
    replace hw5:=ac hw5
    go_wp2
    go_roundw
    case rel=>exact ⟨q+1,by omega,by go_num,hres,aa (hbr.out.trans (hw5.mono hzr))⟩
    case measure=>simp [intOf];omega
  ·have hfull:=aa (show aD gQ (params.zip dargs)=.ok () from by have h:=ht.out;rwa [BB (l:=params.zip dargs) (by rw [List.length_zip];omega)] at h)
   go_wp2
   go_ret
   exact ⟨by rw [hfull.out];rfl,hw.out.trans ((hbt.trans (hbr.out.mono hsw)).mono (by omega))⟩
end Go.Proofs.YtbbdhknagofghaaGreat

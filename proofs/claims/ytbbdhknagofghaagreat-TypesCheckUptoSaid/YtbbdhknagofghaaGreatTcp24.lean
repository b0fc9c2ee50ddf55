import Derived.Test.YtbbdhknagofghaaGreatTcp23
set_option linter.all false
set_option maxHeartbeats 16000000
set_option maxRecDepth 100000
open Go.Proofs.Tryz
namespace Go.Proofs.YtbbdhknagofghaaGreat
open _root_.Nat renaming lt_of_lt_of_le→Bg, le_trans→Bj, le_refl→Bm, zero_le→Bo
open _root_.Go.RowKit.Below renaming refl→Bi
open _root_.List renaming getElem?_eq_getElem→Bk, getElem_mem→Bv, take_zero→Bz, take_of_length_le→BB, take_succ_cons→BE, drop_succ_cons→BY
open Go.RowKit
theorem tg (A1 A2 A3 A4 A5 A6 A7:Option Addr) (p:Pg) (c1 c2 c3 c4 c5 c6 c7:Nat) (B:Nat) (hm:bg p=true) (i:Nat) (hi:i<p.states.length) (j:Nat) (hj:j<p.states[i].cases_.length) (hks:∀ e∈p.states[i].keys,aT e=true) (hkeys:∀ e∈p.states[i].keys,dc p e=.ok ()) (hlen:p.states[i].cases_[j].sets.length≤p.states[i].keys.length) (s0 s1 s2 s3 s4 s5 s6 s7 s8 s9 s10 s11 s12 s13:Value) (w:World) (hB:B≤w.heap.size) (hP:bu w B A1 A2 A3 A4 A5 A6 A7 p):
  Calls prog 21 #[.agg (aq p A1 A2 A3 A4 A5 A6 A7 c1 c2 c3 c4 c5 c6 c7),.agg #[.int .u8 7,.int .i64 (i:Int),.int .i64 (j:Int),s0,s1,s2,s3,s4,s5,s6,s7,s8,s9,s10,s11,s12,s13]] w fun z7 w'=>z7=fq (aD (fu p) (p.states[i].cases_[j].sets.zip p.states[i].keys))∧Below w.heap.size w w':=by
 unfold aq
 obtain ⟨wu,hwu,hsu,wx,hwx,hsx,hw,cu,cx,hfr,hl1,hl2⟩:=kM w (aq p A1 A2 A3 A4 A5 A6 A7 c1 c2 c3 c4 c5 c6 c7) 30 #[.int .u8 7,.int .i64 (i:Int),.int .i64 (j:Int),s0,s1,s2,s3,s4,s5,s6,s7,s8,s9,s10,s11,s12,s13] 49
 obtain ⟨u0,u1,u2,u3,u4,u5,u6⟩:=aF cu
 obtain ⟨x0,x1,x2,x3,x4,x5,x6,x7,x8,x9,x10,x11,x12,x13,x14,x15,x16⟩:=bv cx
 clear cu cx
 obtain ⟨wv,hwv,hsv,hbv,hcv,-⟩:=al wx (dw p A1 A2 A3 A4 A5 A6 A7 c1 c2 c3 c4 c5 c6 c7 (-1)) 88
 obtain ⟨v0,v1,v2,v3,v4,v5,v6,v7⟩:=fs hcv
 have kv:=ab hbv
 have hl3:wx.heap.size<wv.heap.size:=by omega
 have m1:=Bg hl1 hbv.size
 have m2:=Bg hl2 hbv.size
 replace hw:=aa (hw.out.trans (hbv.mono (by omega)))
 clear hcv
 replace hsv:=aa hsv
 have hBv:B≤wv.heap.size:=by omega
 have hPz:=aa (hP.below (hw.out.mono hB))
 clear hP
 have hX0:∀ e∈p.states[i].keys,∀ (ecs:List Value) (W:World),Below wv.heap.size wv W→dL wv B ecs e→Calls prog 29 #[.agg (dw p A1 A2 A3 A4 A5 A6 A7 c1 c2 c3 c4 c5 c6 c7 (-1)),.agg ecs.toArray] W fun r w'=>r=fB (bI p (-1) e)∧Below W.heap.size W w':=
  fun e he ecs W hb hr=>ip A1 A2 A3 A4 A5 A6 A7 p c1 c2 c3 c4 c5 c6 c7 (-1) B hm e (hks e he) ecs W (Bj hBv hb.size) (hPz.out.below (hb.mono hBv)) (ai.keep hr fun q hq=>(hb.mono hBv).cell hq)
 have hok:∀ e∈p.states[i].keys,∃ n:Nat,1≤n∧n≤128∧bI p (-1) e=.ok ⟨(n:Int),false,false⟩:=fun e he=>by
  have h1:=hkeys e he
  unfold dc at h1
  cases h2:bI p (-1) e with
  |error n=>rw [h2] at h1;cases h1
  |ok t=>
   have h3:=wV hm (-1) e (hks e he) t h2
   obtain ⟨tw,tr,tf⟩:=t
   rw [h2] at h1
   cases tr with
   |true=>cases h1
   |false=>
    cases tf with
    |true=>cases h1
    |false=>
     have h4:=h3.2 rfl rfl
     simp only at h4
     exact ⟨tw.toNat,by omega,by omega,by rw [show ((tw.toNat:Nat):Int)=tw from by omega]⟩
 obtain ⟨g0,o0,ecs,hA,hb,hel,hcell,B1,d1,B2,d2,B3,d3,hf,hn1,hn2,hS1,hS2,hS3⟩:=hPz.out.states.2 i _ (Bk hi)
 have lm:=hPz.out.states.len
 have lk:=hS2.len
 have lc:=hS3.len
 subst hA
 subst hf
 obtain ⟨y0,y1,y2,y3,y4⟩:=cN hcell
 obtain ⟨g1,o1,ecs1,hA1,hb1,hel1,hcell1,P1,e1,hf1,-,hQ⟩:=hS3.2 j _ (Bk hj)
 subst hA1
 subst hf1
 obtain ⟨z0,z1,z2⟩:=dl hcell1
 have ls:=hQ.len
 have hbw:g0<wv.heap.size:=by omega
 have hbw1:g1<wv.heap.size:=by omega
 have hil:(i:Int)<(p.states.length:Int):=by omega
 have hjl:(j:Int)<(p.states[i].cases_.length:Int):=by omega
 replace hX0:=aa hX0
 clear hcell hel hcell1 hel1 hS1 hS3 hks hkeys hPz hn1 hn2
 generalize p.states[i].cases_[j].sets=sets at*
 generalize p.states[i].cases_[j].dflt=cd at*
 generalize p.states[i].cases_[j].dest=cdest at*
 generalize p.states[i].keys=keys at*
 generalize p.states[i].cases_.length=ncas at*
 generalize p.states[i].takes.length=ntak at*
 generalize p.states[i].name=sname at*
 generalize p.states[i].dest=sdest at*
 obtain ⟨wt,hwt,hst,hbt,hct,-⟩:=al wv #[.string sname,.slice B1 ntak d1,.string sdest,.slice B2 keys.length d2,.slice (some ⟨g1,o1,none⟩) ncas d3] 61
 obtain ⟨t0,t1,t2,t3,t4⟩:=fR hct
 have kt:=ab hbt
 have n1:=Bg m1 hbt.size
 have n2:=Bg m2 hbt.size
 have n3:=Bg hl3 hbt.size
 have n4:wv.heap.size<wt.heap.size:=by omega
 have n5:=Bg hbw1 hbt.size
 have hsw:wv.heap.size≤wt.heap.size:=by omega
 clear hct
 replace hst:=aa hst
 replace hS2:=aa hS2
 replace hQ:=aa hQ
 have hs0:=aa (Bi wt.heap.size wt)
 go_enter func21,ntmps21
 go_wp2_with fail
 go_loopw [56] (fun q wr=>∃ q':Nat,q'≤sets.length∧q=.int .i64 q'∧Hid (aD (fu p) ((sets.zip keys).take q')=.ok ())∧Hid (Below wt.heap.size wt wr)) (fun q _=>sets.length-(intOf q).toNat)
 case atStart=>exact ⟨0,Bo _,rfl,aa (by simp [aD]),hs0⟩
 case round=>
  clear hs0
  obtain ⟨q,hq,rfl,ht,hbr⟩:=hrel
  have hzr:=hbr.out.size
  have hc:=ab hbr.out
  have r1:=Bg n1 hzr
  have r2:=Bg n2 hzr
  have r3:=Bg n3 hzr
  have r4:=Bg n4 hzr
  have r5:=Bg n5 hzr
  by_cases hlt:q<sets.length
  ·have hltk:q<keys.length:=by omega
   have hltt:q<(sets.zip keys).length:=by rw [List.length_zip];omega
   obtain ⟨g3,o3,ecs3,hA3,hb3',hel3,hcell3,hf3,-,hokv,hokm⟩:=hQ.out.2 q _ (Bk hlt)
   obtain ⟨g4,o4,ecs4,hA4,hb4',hel4,hcell4,hr4⟩:=hS2.out.2 q _ (Bk hltk)
   subst hA3
   subst hA4
   obtain ⟨n,h1,h2,hn⟩:=hok _ (Bv hltk)
   have hltz:(q:Int)<(sets.length:Int):=by omega
   have hltz2:(q:Int)<(keys.length:Int):=by omega
   have hst:=aa (fun n h=>cS (f:=fu p) (n:=n) hltt ht.out h)
   have hnx:=aa (fun h=>cT (f:=fu p) hltt ht.out h)
   rw [List.getElem_zip] at hst hnx
   have hX1:=aa (fun (W:World) (hW:Below wv.heap.size wv W)=>hX0.out _ (Bv hltk) ecs4 W hW hr4)
   have hkr:=aa (show fu p (sets[q],keys[q])=if sets[q].kind=1 then .ok () else match dI sets[q].v (n:Int) with| .error n=>.error n| .ok _=>if sets[q].kind=3 then dI sets[q].m (n:Int) else .ok () from by unfold fu;simp only [hn];split<;>first|rfl|(cases dI sets[q].v (n:Int)<;>rfl))
   rw [hn] at hX1
   generalize fu p (sets[q],keys[q])=kr at hst hnx hkr
   generalize keys[q]=e at hr4
   generalize sets[q]=set at hf3 hokv hokm hkr
   obtain ⟨sk,sv,sm⟩:=set
   simp only at hf3 hokv hokm hkr
   subst hf3
   have hV:=aa (fun (W:World)=>mQ sv n h1 h2 hokv W)
   have hM:=aa (fun (W:World)=>mQ sm n h1 h2 hokm W)
   generalize dI sv (n:Int)=rv at hV hkr
   generalize dI sm (n:Int)=rm at hM hkr
   obtain ⟨ope,lite,heade,namee,hie,loe,argse⟩:=e
   obtain ⟨Ae,cape,rfl,-,-,-,-,-,-,hs'⟩:=RE.inv hr4
   have hl':=hs'.len
   obtain ⟨l0,l1,l2,l3,l4,l5,l6,l7,l8⟩:=cl hcell4
   obtain ⟨b0,b1,b2,b3,b4,b5,b6⟩:=wR hcell3
   obtain ⟨wy,hwy,hzy,hby,hcy,-⟩:=al wr #[.int .u8 sk,.int .i64 sv.1,.int .u64 sv.2.1,.int .u64 sv.2.2,.int .i64 sm.1,.int .u64 sm.2.1,.int .u64 sm.2.2] 97
   obtain ⟨y0',y1',y2',y3',y4',y5',y6'⟩:=aF hcy
   have hbX:=hbr.out.trans (hby.mono hzr)
   have hc2:=ab hbX
   have q1:=Bg n1 hbX.size
   have q2:=Bg n2 hbX.size
   have q3:=Bg n3 hbX.size
   have q4:=Bg n4 hbX.size
   have q5:wr.heap.size<wy.heap.size:=by omega
   have f3:g3<wv.heap.size:=by omega
   have f4:g4<wv.heap.size:=by omega
   have f5:=Bg f3 hsw
   have f6:=Bg f4 hsw
   have f7:=Bg f4 (Bj hsw hbX.size)
   have f8:=Bg f3 (Bj hsw hzr)
   have hfs:∀ W:World,(Instr.field 75 (.agg #[.int .i64 (n:Int),.bool false,.bool false]) 0).run prog W=.ok (.int .i64 (n:Int)) W:=fun _=>by kernel_rfl
   have hX2:Hid (∀ W,Below wv.heap.size wv W→Calls prog 29 #[.agg (dw p A1 A2 (some ⟨g0,o0,none⟩) A4 A5 A6 A7 c1 c2 c3 c4 c5 c6 c7 (-1)),.agg (aO ope lite heade namee hie loe Ae argse.length cape)] W fun e w'=>e=.returned (.agg #[.int .i64 (n:Int),.bool false,.bool false])∧Below W.heap.size W w'):=hX1
   replace hbX:=aa hbX
   clear hcell3 hcell4 hokv hokm hr4 hs' hX1 hel3 hel4 hcy hby hn
   replace hzy:=aa hzy
   have hg:=ax (Bi wy.heap.size wy) (Bm _)
   go_wp2_with fail
   refine aS 6 (by kernel_rfl) (by kernel_rfl) ?_
   simp only [BE,Bz,BY,List.drop_zero]
   repeat (any_goals (first|go_big_quiet_step (fail)|quiet_step (fail)))
   refine wpQuiet_nil ?_
   intro w3 hw3
   have hX:=aa (hX2.out w3 (hbt.trans ((hbX.out.trans (hw3.mono hbX.out.size)).mono hsw)))
   clear hg hX2
   by_cases c1:sk=1
   ·have hres:=aa (hnx.out (hkr.out.trans (if_pos c1)))
    clear hnx hst hkr hV hM
    subst c1
    go_wp2_with (go_at_call 29;refine hX.out.mono ?_;rintro e w4 ⟨rfl,hw4⟩;have hb4:=hw3.trans (hw4.mono hw3.size);have kw4:=ab hb4;have u1:=Bg q5 hb4.size)
    go_roundw
    case rel=>exact ⟨q+1,by omega,by go_num,hres,aa ((hbX.out.trans (hw3.mono hbX.out.size)).trans (hw4.mono (hbX.out.trans (hw3.mono hbX.out.size)).size))⟩
    case measure=>simp [intOf];omega
   ·have c1q:(sk !=1)=true:=bne_iff_ne.2 c1
    replace hkr:=aa (hkr.out.trans (if_neg c1))
    cases rv with
    |error n7=>
     have hres:=aa (hst.out n7 hkr.out)
     have hV1:=aa (fun W=>(show Calls prog _ _ W fun e w'=>e=ji n7∧Below W.heap.size W w' from hV.out W))
     clear hnx hst hV hM
     go_wp2_with (first|(go_at_call 29;refine hX.out.mono ?_;rintro e w4 ⟨rfl,hw4⟩;have hb4:=hw3.trans (hw4.mono hw3.size);have kw4:=ab hb4;have u1:=Bg q5 hb4.size)|(go_at_call 36;with_reducible refine (hV1.out _).mono ?_;rintro e w5 ⟨rfl,hw5⟩))
     exact ⟨rfl,by rw [hres.out];rfl,hw.out.trans ((hbt.trans ((((hbX.out.trans (hw3.mono hbX.out.size)).trans (hw4.mono (hbX.out.trans (hw3.mono hbX.out.size)).size)).trans (hw5.mono ((hbX.out.trans (hw3.mono hbX.out.size)).trans (hw4.mono (hbX.out.trans (hw3.mono hbX.out.size)).size)).size)).mono hsw)).mono (by omega))⟩
    |ok _=>
     have hV1:=aa (fun W=>(show Calls prog _ _ W fun e w'=>e=.returned (.tuple #[])∧Below W.heap.size W w' from hV.out W))
     clear hV
     by_cases c3:sk=3
     ·replace hkr:=aa (hkr.out.trans (if_pos c3))
      subst c3
      cases rm with
      |error n7=>
       have hres:=aa (hst.out n7 hkr.out)
       have hM1:=aa (fun W=>(show Calls prog _ _ W fun e w'=>e=ji n7∧Below W.heap.size W w' from hM.out W))
       clear hnx hst hM
       go_wp2_with (first|(go_at_call 29;refine hX.out.mono ?_;rintro e w4 ⟨rfl,hw4⟩;have hb4:=hw3.trans (hw4.mono hw3.size);have kw4:=ab hb4;have u1:=Bg q5 hb4.size)|(go_at_call 36;with_reducible refine (hV1.out _).mono ?_;rintro e w5 ⟨rfl,hw5⟩;have hb5:=hb4.trans (hw5.mono hb4.size);have kw5:=ab hb5;have u2:=Bg q5 hb5.size)|(go_at_call 36;with_reducible refine (hM1.out _).mono ?_;rintro e w6 ⟨rfl,hw6⟩))
       exact ⟨rfl,by rw [hres.out];rfl,hw.out.trans ((hbt.trans (((((hbX.out.trans (hw3.mono hbX.out.size)).trans (hw4.mono (hbX.out.trans (hw3.mono hbX.out.size)).size)).trans (hw5.mono ((hbX.out.trans (hw3.mono hbX.out.size)).trans (hw4.mono (hbX.out.trans (hw3.mono hbX.out.size)).size)).size)).trans (hw6.mono (((hbX.out.trans (hw3.mono hbX.out.size)).trans (hw4.mono (hbX.out.trans (hw3.mono hbX.out.size)).size)).trans (hw5.mono ((hbX.out.trans (hw3.mono hbX.out.size)).trans (hw4.mono (hbX.out.trans (hw3.mono hbX.out.size)).size)).size)).size)).mono hsw)).mono (by omega))⟩
      |ok _=>
       have hres:=aa (hnx.out hkr.out)
       have hM1:=aa (fun W=>(show Calls prog _ _ W fun e w'=>e=.returned (.tuple #[])∧Below W.heap.size W w' from hM.out W))
       clear hnx hst hM
       go_wp2_with (first|(go_at_call 29;refine hX.out.mono ?_;rintro e w4 ⟨rfl,hw4⟩;have hb4:=hw3.trans (hw4.mono hw3.size);have kw4:=ab hb4;have u1:=Bg q5 hb4.size)|(go_at_call 36;with_reducible refine (hV1.out _).mono ?_;rintro e w5 ⟨rfl,hw5⟩;have hb5:=hb4.trans (hw5.mono hb4.size);have kw5:=ab hb5;have u2:=Bg q5 hb5.size)|(go_at_call 36;with_reducible refine (hM1.out _).mono ?_;rintro e w6 ⟨rfl,hw6⟩))
       go_roundw
       case rel=>exact ⟨q+1,by omega,by go_num,hres,aa ((((hbX.out.trans (hw3.mono hbX.out.size)).trans (hw4.mono (hbX.out.trans (hw3.mono hbX.out.size)).size)).trans (hw5.mono ((hbX.out.trans (hw3.mono hbX.out.size)).trans (hw4.mono (hbX.out.trans (hw3.mono hbX.out.size)).size)).size)).trans (hw6.mono (((hbX.out.trans (hw3.mono hbX.out.size)).trans (hw4.mono (hbX.out.trans (hw3.mono hbX.out.size)).size)).trans (hw5.mono ((hbX.out.trans (hw3.mono hbX.out.size)).trans (hw4.mono (hbX.out.trans (hw3.mono hbX.out.size)).size)).size)).size))⟩
       case measure=>simp [intOf];omega
     ·have c3q:(sk==3)=false:=beq_eq_false_iff_ne.2 c3
      have hres:=aa (hnx.out (hkr.out.trans (if_neg c3)))
      clear hnx hst hM
      go_wp2_with (first|(go_at_call 29;refine hX.out.mono ?_;rintro e w4 ⟨rfl,hw4⟩;have hb4:=hw3.trans (hw4.mono hw3.size);have kw4:=ab hb4;have u1:=Bg q5 hb4.size)|(go_at_call 36;with_reducible refine (hV1.out _).mono ?_;rintro e w5 ⟨rfl,hw5⟩;have hb5:=hb4.trans (hw5.mono hb4.size);have kw5:=ab hb5;have u2:=Bg q5 hb5.size))
      go_roundw
      case rel=>exact ⟨q+1,by omega,by go_num,hres,aa (((hbX.out.trans (hw3.mono hbX.out.size)).trans (hw4.mono (hbX.out.trans (hw3.mono hbX.out.size)).size)).trans (hw5.mono ((hbX.out.trans (hw3.mono hbX.out.size)).trans (hw4.mono (hbX.out.trans (hw3.mono hbX.out.size)).size)).size))⟩
      case measure=>simp [intOf];omega
  ·have hfull:=aa (show aD (fu p) (sets.zip keys)=.ok () from by have h:=ht.out;rwa [BB (l:=sets.zip keys) (by rw [List.length_zip];omega)] at h)
   go_wp2
   (try simp only [Exit.inBlock,Exit.then])
   refine bodyPost_end (results_none rfl _ _ _) rfl ?_
   exact ⟨by rw [hfull.out];rfl,hw.out.trans ((hbt.trans (hbr.out.mono hsw)).mono (by omega))⟩
def bh (p:Pg) (x:It):Rs Unit:=
 if x.kind=6 then (p.states[x.a.toNat]?).elim (.ok ()) fun s=>aD (dc p) s.keys
 else if x.kind=7 then (p.states[x.a.toNat]?).elim (.ok ()) fun s=>(s.cases_[x.b.toNat]?).elim (.ok ()) fun c=>aD (fu p) (c.sets.zip s.keys)
 else if x.kind=10 then lj p x.a x.s
 else if x.kind=12 then (p.tables[x.a.toNat]?).elim (.ok ()) fun t=>(t.keys[x.b.toNat]?).elim (.ok ()) fun k=>eG p t.keys x.b.toNat k
 else if x.kind=14 then (p.tables[x.a.toNat]?).elim (.ok ()) fun t=>(p.actions[(bz p t.dname).toNat]?).elim (.ok ()) fun a=>aD gQ (a.params.zip t.dargs)
 else .ok ()
structure pO (p:Pg) (x:It):Prop where
 next:x.kind=6→∃ (i:Nat) (hi:i<p.states.length),x.a=(i:Int)∧∀ e∈p.states[i].keys,aT e=true
 case_:x.kind=7→∃ (i:Nat) (hi:i<p.states.length) (j:Nat) (hj:j<p.states[i].cases_.length),x.a=(i:Int)∧x.b=(j:Int)∧(∀ e∈p.states[i].keys,aT e=true)∧(∀ e∈p.states[i].keys,dc p e=.ok ())∧p.states[i].cases_[j].sets.length≤p.states[i].keys.length
 stmt:x.kind=10→∀ kind head name e thn els,x.s=.mk kind head name e thn els→(kind=1∨kind=2∨kind=5→aT e=true)∧(kind=1→rg p head name)
 key:x.kind=12→∃ (i:Nat) (hi:i<p.tables.length) (j:Nat) (hj:j<p.tables[i].keys.length),x.a=(i:Int)∧x.b=(j:Int)∧aT p.tables[i].keys[j].e=true
 dflt:x.kind=14→∃ (i:Nat) (hi:i<p.tables.length) (k:Nat) (hk:k<p.actions.length),x.a=(i:Int)∧bz p p.tables[i].dname=(k:Int)∧p.actions[k].params.length=p.tables[i].dargs.length
theorem vz (A1 A2 A3 A4 A5 A6 A7:Option Addr) (p:Pg) (c1 c2 c3 c4 c5 c6 c7:Nat) (B:Nat) (hm:bg p=true) (x:It) (hx:pO p x) (cs:List Value) (w:World) (hB:B≤w.heap.size) (hP:bu w B A1 A2 A3 A4 A5 A6 A7 p) (hcap:jH w A5 p) (h:oL w B cs x):
  Calls prog 21 #[.agg (aq p A1 A2 A3 A4 A5 A6 A7 c1 c2 c3 c4 c5 c6 c7),.agg cs.toArray] w fun z7 w'=>z7=fq (bh p x)∧Below w.heap.size w w':=by
 unfold aq
 obtain ⟨scs,rfl,hst⟩:=h
 obtain ⟨s0,s1,s2,s3,s4,s5,s6,s7,s8,s9,s10,s11,s12,s13,rfl⟩:=aI hst
 obtain ⟨k,a,b,st⟩:=x
 obtain ⟨g6,g7,g10,g12,g14⟩:=hx
 simp only at g6 g7 g10 g12 g14 hst
 by_cases h6:k=6
 ·subst h6
  obtain ⟨i,hi,rfl,hks⟩:=g6 rfl
  rw [show bh p ⟨6,(i:Int),b,st⟩=aD (dc p) p.states[i].keys from by simp [bh,Bk hi]]
  exact tc A1 A2 A3 A4 A5 A6 A7 p c1 c2 c3 c4 c5 c6 c7 B hm i hi hks b s0 s1 s2 s3 s4 s5 s6 s7 s8 s9 s10 s11 s12 s13 w hB hP
 by_cases h7:k=7
 ·subst h7
  obtain ⟨i,hi,j,hj,rfl,rfl,hks,hkeys,hlen⟩:=g7 rfl
  rw [show bh p ⟨7,(i:Int),(j:Int),st⟩=aD (fu p) (p.states[i].cases_[j].sets.zip p.states[i].keys) from by simp [bh,Bk hi,Bk hj]]
  exact tg A1 A2 A3 A4 A5 A6 A7 p c1 c2 c3 c4 c5 c6 c7 B hm i hi j hj hks hkeys hlen s0 s1 s2 s3 s4 s5 s6 s7 s8 s9 s10 s11 s12 s13 w hB hP
 by_cases h10:k=10
 ·subst h10
  rw [show bh p ⟨10,a,b,st⟩=lj p a st from by simp [bh]]
  exact td A1 A2 A3 A4 A5 A6 A7 p c1 c2 c3 c4 c5 c6 c7 B hm a b st (g10 rfl) s0 s1 s2 s3 s4 s5 s6 s7 s8 s9 s10 s11 s12 s13 w hB hP hst
 by_cases h12:k=12
 ·subst h12
  obtain ⟨i,hi,j,hj,rfl,rfl,hek⟩:=g12 rfl
  rw [show bh p ⟨12,(i:Int),(j:Int),st⟩=eG p p.tables[i].keys j p.tables[i].keys[j] from by simp [bh,Bk hi,Bk hj]]
  exact vy A1 A2 A3 A4 A5 A6 A7 p c1 c2 c3 c4 c5 c6 c7 B hm i hi j hj hek s0 s1 s2 s3 s4 s5 s6 s7 s8 s9 s10 s11 s12 s13 w hB hP hcap
 by_cases h14:k=14
 ·subst h14
  obtain ⟨i,hi,k,hk,rfl,hkz,hlen⟩:=g14 rfl
  rw [show bh p ⟨14,(i:Int),b,st⟩=aD gQ (p.actions[k].params.zip p.tables[i].dargs) from by simp [bh,Bk hi,hkz,Bk hk]]
  exact nK A1 A2 A3 A4 A5 A6 A7 p c1 c2 c3 c4 c5 c6 c7 B hm i hi b k hk hkz hlen s0 s1 s2 s3 s4 s5 s6 s7 s8 s9 s10 s11 s12 s13 w hB hP
 rw [show bh p ⟨k,a,b,st⟩=.ok () from by simp [bh,h6,h7,h10,h12,h14]]
 exact te A1 A2 A3 A4 A5 A6 A7 p c1 c2 c3 c4 c5 c6 c7 B hm k a b h6 h7 h10 h12 h14 s0 s1 s2 s3 s4 s5 s6 s7 s8 s9 s10 s11 s12 s13 w hB hP
theorem ru (A1 A2 A3 A4 A5 A6 A7:Option Addr) (p:Pg) (c1 c2 c3 c4 c5 c6 c7:Nat) (B:Nat) (hm:bg p=true) (x:It) (hx:pO p x) (s0 s1 s2 s3 s4 s5 s6 s7 s8 s9 s10 s11 s12 s13:Value) (ga gb:Nat) (w:World) (hB:B≤w.heap.size) (hP:bu w B A1 A2 A3 A4 A5 A6 A7 p) (hcap:jH w A5 p)
  (h:oL w B [.int .u8 x.kind,.int .i64 x.a,.int .i64 x.b,s0,s1,s2,s3,s4,s5,s6,s7,s8,s9,s10,s11,s12,s13] x)
  (hu:∀ i,w.cell? ⟨ga,i,none⟩=((aq p A1 A2 A3 A4 A5 A6 A7 c1 c2 c3 c4 c5 c6 c7):Array Value)[i]?)
  (hxc:∀ i,w.cell? ⟨gb,i,none⟩=(#[.int .u8 x.kind,.int .i64 x.a,.int .i64 x.b,s0,s1,s2,s3,s4,s5,s6,s7,s8,s9,s10,s11,s12,s13]:Array Value)[i]?):
  Calls prog 20 #[.pointer (some ⟨ga,0,none⟩),.pointer (some ⟨gb,0,none⟩)] w fun z7 w'=>z7=fq (bh p x)∧Below w.heap.size w w':=by
 have hX:=aa (show Calls prog 21 #[.agg (aq p A1 A2 A3 A4 A5 A6 A7 c1 c2 c3 c4 c5 c6 c7),.agg #[.int .u8 x.kind,.int .i64 x.a,.int .i64 x.b,s0,s1,s2,s3,s4,s5,s6,s7,s8,s9,s10,s11,s12,s13]] w _ from vz A1 A2 A3 A4 A5 A6 A7 p c1 c2 c3 c4 c5 c6 c7 B hm x hx _ w hB hP hcap h)
 generalize bh p x=r at hX ⊢
 obtain ⟨u0,u1,u2,u3,u4,u5,u6⟩:=aF hu
 obtain ⟨x0,x1,x2,x3,x4,x5,x6,x7,x8,x9,x10,x11,x12,x13,x14,x15,x16⟩:=bv hxc
 clear hu hxc h hP hcap hx
 cases r with
 |error n7=>
  replace hX:=aa (show Calls prog _ _ w fun e w'=>e=ji n7∧Below w.heap.size w w' from hX.out)
  go_enter func20,ntmps20
  go_wp2_with (go_at_call 21;refine hX.out.mono ?_;rintro e w3 ⟨rfl,hb3⟩)
  exact ⟨rfl,rfl,hb3⟩
 |ok u=>
  replace hX:=aa (show Calls prog _ _ w fun e w'=>e=.returned (.tuple #[])∧Below w.heap.size w w' from hX.out)
  go_enter func20,ntmps20
  go_wp2_with (go_at_call 21;refine hX.out.mono ?_;rintro e w3 ⟨rfl,hb3⟩)
  (try simp only [Exit.inBlock,Exit.then])
  refine bodyPost_end (results_none rfl _ _ _) rfl ?_
  exact ⟨rfl,hb3⟩
end Go.Proofs.YtbbdhknagofghaaGreat

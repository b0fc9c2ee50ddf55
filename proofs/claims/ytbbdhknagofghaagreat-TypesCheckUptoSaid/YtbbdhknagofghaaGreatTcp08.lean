import Derived.Test.YtbbdhknagofghaaGreatTcp07
import Derived.Deep.DeepCutAuto
import Derived.Deep.CutBlock
set_option linter.all false
set_option maxHeartbeats 4000000
set_option maxRecDepth 100000
open Go.Proofs.Tryz
namespace Go.Proofs.YtbbdhknagofghaaGreat
open _root_.Go.Calls renaming regrown_of→Bh
open _root_.Go.RowKit.Below renaming refl→Bi
open _root_.Nat renaming le_trans→Bj, le_refl→Bm, zero_le→Bo
open _root_.List renaming getElem?_eq_getElem→Bk, getElem_mem→Bv, take_of_length_le→BB, take_succ_eq_append_getElem→BO, isEmpty_eq_false_iff→B9
open _root_.Go.Sort renaming grow→Bl
open _root_.Int renaming toNat_natCast→BM
open Go.RowKit
theorem uO (p:Pg) (act:Int) (e:Ex):(cZ p act e !=0)= !aU p act e:=by
 unfold cZ cF
 cases aU p act e<;>rfl
theorem iE {α:Type} {f:α→Bool} {l:List α} {k:Nat} (hk:k<l.length):(l.take (k+1)).all f=((l.take k).all f&&f l[k]):=by
 rw [BO hk,List.all_append];simp
theorem bu.more {w:World} {B B':Nat} {A1 A2 A3 A4 A5 A6 A7:Option Addr} {p:Pg} (h:bu w B A1 A2 A3 A4 A5 A6 A7 p) (hB:B≤B'):bu w B' A1 A2 A3 A4 A5 A6 A7 p:=
 ⟨h.1.more fS hB,h.2.more bA hB,h.3.more gE hB,h.4.more fT hB,h.5.more gF hB,h.6.more be hB,h.7.more aW hB⟩
theorem kl (A1 A2 A3 A4 A5 A6 A7:Option Addr) (p:Pg) (c1 c2 c3 c4 c5 c6 c7:Nat) (act:Int) (B:Nat) (e:Ex):∀ (cs:List Value) (w:World),B≤w.heap.size→bu w B A1 A2 A3 A4 A5 A6 A7 p→dL w B cs e→
  Calls prog 91 #[.agg (aq p A1 A2 A3 A4 A5 A6 A7 c1 c2 c3 c4 c5 c6 c7),.int .i64 act,.agg cs.toArray] w fun r w'=>r=.returned (.int .i64 (cZ p act e))∧Below w.heap.size w w':=by
 unfold aq
 induction e using Ex.ind with
 |h op lit head name hi lo args ih=>
  intro cs w hB hP h
  obtain ⟨A,cap,rfl,-,-,-,-,-,-,hs⟩:=RE.inv h
  have hl:=hs.len
  replace ih:=aa ih
  clear h
  show Calls _ _ #[.agg #[.slice A1 p.headers.length c1,.slice A2 p.metas.length c2,.slice A3 p.states.length c3,.slice A4 p.actions.length c4,.slice A5 p.tables.length c5,.slice A6 p.control.length c6,.slice A7 p.emit.length c7],.int .i64 act,.agg #[.int .u8 op,.int .i64 lit.1,.int .u64 lit.2.1,.int .u64 lit.2.2,.string head,.string name,.int .i64 hi,.int .i64 lo,.slice A args.length cap]] _ _
  obtain ⟨wa,hwa,hsa,hba,hca,-⟩:=al w (aq p A1 A2 A3 A4 A5 A6 A7 c1 c2 c3 c4 c5 c6 c7) 30
  obtain ⟨wb,hwb,hsb,hbb,hcb,-⟩:=al wa (aO op lit head name hi lo A args.length cap) 45
  have hw:=hba.trans (hbb.mono (by omega))
  obtain ⟨y0,y1,y2,y3,y4,y5,y6⟩:=aF (w:=wa) (a:=w.heap.size) fun i=>hca i
  have q:∀ i,wb.cell? ⟨w.heap.size,i,none⟩=wa.cell? ⟨w.heap.size,i,none⟩:=fun i=>hbb.cell (p:=⟨w.heap.size,i,none⟩) (by show w.heap.size<_;omega)
  obtain ⟨z0,z1,z2,z3,z4,z5,z6⟩:=aF (w:=wb) (a:=w.heap.size) fun i=>(q _).trans<|hca i
  have e0:wb.cell? ⟨w.heap.size+1,0,none⟩=some (.int .u8 op):=by have:=hcb 0;rw [hsa] at this;exact this
  have e4:wb.cell? ⟨w.heap.size+1,4,none⟩=some (.string head):=by have:=hcb 4;rw [hsa] at this;exact this
  have e5:wb.cell? ⟨w.heap.size+1,5,none⟩=some (.string name):=by have:=hcb 5;rw [hsa] at this;exact this
  have e8:wb.cell? ⟨w.heap.size+1,8,none⟩=some (.slice A args.length cap):=by have:=hcb 8;rw [hsa] at this;exact this
  have hS:=aa (hs.below ai (hw.mono hB))
  have hP2:=aa (hP.below (hw.mono hB))
  have hzb:w.heap.size+2=wb.heap.size:=by omega
  have hv:=aa (show cZ p act (.mk op lit head name hi lo args)=cF (!(ep p act op head name&&args.all (aU p act))) 7 from by simp only [cZ,aU,iL])
  replace hw:=aa hw
  have hb0:Below wb.heap.size wb wb:=Bi _ _
  have hl1:w.heap.size<wb.heap.size:=by omega
  have hl2:w.heap.size+1<wb.heap.size:=by omega
  have hz2:w.heap.size+2≤wb.heap.size:=by omega
  clear hca hcb hs hP q y0 y1 y2 y3 y4 y5 y6 hba hbb hzb
  replace hsb:=aa hsb
  go_enter func91,ntmps91
  go_upto_block 0 with (fail)
  go_cut [7] (fun m wx=>∃ t:Bool,m=.bool t∧Hid (t= !ep p act op head name)∧Hid (Below wb.heap.size wb wx)∧wb.heap.size≤wx.heap.size)
  case first=>
   have hg:=ax hb0 (Bm _)
   by_cases h2:op=2
   ·have o2:=aa (show ep p act op head name=decide (0≤aJ p (ap p head) name) from by simp [ep,h2])
    subst h2
    have hH:∀ d os,Hid (Calls prog 83 #[.agg (aq p A1 A2 A3 A4 A5 A6 A7 c1 c2 c3 c4 c5 c6 c7),.string head] (Bl (redrawn wb d) os) _):=fun d os=>aa (cK _ A1 A2 A3 A4 A5 A6 A7 p c1 c2 c3 c4 c5 c6 c7 head (by have:=cH wb d os;omega) (hP2.out.below ((aA hb0 (by omega) d os).mono (by omega))))
    have hF:∀ d os,Hid (Calls prog 84 #[.agg (aq p A1 A2 A3 A4 A5 A6 A7 c1 c2 c3 c4 c5 c6 c7),.int .i64 (ap p head),.string name] (Bl (redrawn wb d) os) _):=fun d os=>aa (fG _ A1 A2 A3 A4 A5 A6 A7 p c1 c2 c3 c4 c5 c6 c7 (ap p head) name (by have:=cH wb d os;omega) (hP2.out.below ((aA hb0 (by omega) d os).mono (by omega))))
    generalize aJ p (ap p head) name=z at o2 hF
    generalize ap p head=y at hH hF
    go_wp2_with fail
    refine cD ?_
    repeat (any_goals (first|go_big_quiet_step (first|(go_at_call 83;with_reducible exact Bh (hH _ _).out)|(go_at_call 84;with_reducible exact Bh (hF _ _).out))|quiet_step (first|(go_at_call 83;with_reducible exact Bh (hH _ _).out)|(go_at_call 84;with_reducible exact Bh (hF _ _).out))))
    refine wpQuiet_nil ?_
    intro w1 hw1
    replace hw1:=ac hw1
    go_wp2
    go_meet
    exact ⟨_,rfl,aa (by rw [o2.out,←decide_not];simp),aa hw1,hw1.size⟩
   ·by_cases h3:op=3
    ·have o2:=aa (show ep p act op head name=decide (0≤ct p name) from by simp [ep,h3])
     have hX:=aa (gL wb A1 A2 A3 A4 A5 A6 A7 p c1 c2 c3 c4 c5 c6 c7 name (show B≤wb.heap.size by omega) hP2.out)
     generalize ct p name=z at o2 hX
     subst h3
     clear h2
     go_wp2_with (go_at_call 85;refine hX.out.mono ?_;rintro e w1 ⟨rfl,hw1⟩)
     go_meet
     exact ⟨_,rfl,aa (by rw [o2.out,←decide_not];simp),aa hw1,hw1.size⟩
    ·by_cases h4:op=4
     ·have o2:=aa (show ep p act op head name=decide (0≤aL p act name) from by simp [ep,h4])
      have hX:=aa (ki wb A1 A2 A3 A4 A5 A6 A7 p c1 c2 c3 c4 c5 c6 c7 act name (show B≤wb.heap.size by omega) hP2.out)
      generalize aL p act name=z at o2 hX
      subst h4
      clear h2 h3
      go_wp2_with (go_at_call 88;refine hX.out.mono ?_;rintro e w1 ⟨rfl,hw1⟩)
      go_meet
      exact ⟨_,rfl,aa (by rw [o2.out,←decide_not];simp),aa hw1,hw1.size⟩
     ·by_cases h6:op=6
      ·have o2:=aa (show ep p act op head name=decide (0≤ap p head) from by simp [ep,h6])
       have hX:=aa (cK wb A1 A2 A3 A4 A5 A6 A7 p c1 c2 c3 c4 c5 c6 c7 head (show B≤wb.heap.size by omega) hP2.out)
       generalize ap p head=z at o2 hX
       subst h6
       clear h2 h3 h4
       go_wp2_with (go_at_call 83;refine hX.out.mono ?_;rintro e w1 ⟨rfl,hw1⟩)
       go_meet
       exact ⟨_,rfl,aa (by rw [o2.out,←decide_not];simp),aa hw1,hw1.size⟩
      ·have o2:=aa (show ep p act op head name=true from by simp [ep,h2,h3,h4,h6])
       go_wp2
       go_meet
       exact ⟨_,rfl,aa (by rw [o2.out];rfl),aa hb0,Bm _⟩
  case rest=>
   obtain ⟨t,rfl,hct,hbc,hzc⟩:=hcut
   obtain ⟨wd,rfl⟩:∃ wd:World,wd=wc:=⟨_,rfl⟩
   have hc:=ab hbc.out
   generalize ep p act op head name=g at hv hct
   go_wp2
   go_loopw [7,48] (fun m i wr=>∃ k:Nat,k≤args.length∧i=.int .i64 k∧(∃ t:Bool,m=.bool t∧Hid (t= !(g&&(args.take k).all (aU p act))))∧Hid (Below wb.heap.size wb wr)∧wb.heap.size≤wr.heap.size) (fun _ i _=>args.length-(intOf i).toNat)
   case atStart=>exact ⟨0,Bo _,rfl,⟨t,rfl,aa (by rw [hct.out];simp)⟩,hbc,hzc⟩
   case round=>
    clear hc hbc hzc hct t
    obtain ⟨k,hk,rfl,⟨t,rfl,ht0⟩,hbr,hzr⟩:=hrel
    have hc:=ab hbr.out
    by_cases hlt:k<args.length
    ·obtain ⟨b,o,ecs,hA,hb,hel,hcell,hr⟩:=hS.out.2 k _ (Bk hlt)
     subst hA
     have hltz:(k:Int)<(args.length:Int):=by omega
     have hcall:=fun (wx:World) (h1:wb.heap.size≤wx.heap.size) (h2:Below wb.heap.size wb wx)=>ih.out _ (Bv hlt) ecs wx (by omega) (hP2.out.below (h2.mono (by omega))) (ai.keep hr fun q hq=>(h2.mono (show B≤_ by omega)).cell hq)
     have hne:=aa (uO p act args[k])
     have ht:=aa (iE (f:=aU p act) hlt)
     have hrc:=aa hr
     generalize args[k]=x at hr
     obtain ⟨op',lit',head',name',hi',lo',args'⟩:=x
     obtain ⟨A',cap',rfl,-,-,-,-,-,-,hs'⟩:=RE.inv hr
     have hl':=hs'.len
     obtain ⟨wx,hwx,hzx,hbx,hcx,-⟩:=al wr (aO op' lit' head' name' hi' lo' A' args'.length cap') 45
     have x0:wb.cell? ⟨b,o+k*9,none⟩=some (.int .u8 op'):=by simpa using hcell 0 _ rfl
     have x1:wb.cell? ⟨b,o+k*9+1,none⟩=some (.int .i64 lit'.1):=hcell 1 _ rfl
     have x2:wb.cell? ⟨b,o+k*9+2,none⟩=some (.int .u64 lit'.2.1):=hcell 2 _ rfl
     have x3:wb.cell? ⟨b,o+k*9+3,none⟩=some (.int .u64 lit'.2.2):=hcell 3 _ rfl
     have x4:wb.cell? ⟨b,o+k*9+4,none⟩=some (.string head'):=hcell 4 _ rfl
     have x5:wb.cell? ⟨b,o+k*9+5,none⟩=some (.string name'):=hcell 5 _ rfl
     have x6:wb.cell? ⟨b,o+k*9+6,none⟩=some (.int .i64 hi'):=hcell 6 _ rfl
     have x7:wb.cell? ⟨b,o+k*9+7,none⟩=some (.int .i64 lo'):=hcell 7 _ rfl
     have x8:wb.cell? ⟨b,o+k*9+8,none⟩=some (.slice A' args'.length cap'):=hcell 8 _ rfl
     have v0:wx.cell? ⟨wr.heap.size,0,none⟩=some (.int .u8 op'):=hcx 0
     have v1:wx.cell? ⟨wr.heap.size,1,none⟩=some (.int .i64 lit'.1):=hcx 1
     have v2:wx.cell? ⟨wr.heap.size,2,none⟩=some (.int .u64 lit'.2.1):=hcx 2
     have v3:wx.cell? ⟨wr.heap.size,3,none⟩=some (.int .u64 lit'.2.2):=hcx 3
     have v4:wx.cell? ⟨wr.heap.size,4,none⟩=some (.string head'):=hcx 4
     have v5:wx.cell? ⟨wr.heap.size,5,none⟩=some (.string name'):=hcx 5
     have v6:wx.cell? ⟨wr.heap.size,6,none⟩=some (.int .i64 hi'):=hcx 6
     have v7:wx.cell? ⟨wr.heap.size,7,none⟩=some (.int .i64 lo'):=hcx 7
     have v8:wx.cell? ⟨wr.heap.size,8,none⟩=some (.slice A' args'.length cap'):=hcx 8
     have hbX:=hbr.out.trans (hbx.mono hzr)
     have hcX:=ab hbX
     have hX:Calls prog 91 #[.agg (aq p A1 A2 A3 A4 A5 A6 A7 c1 c2 c3 c4 c5 c6 c7),.int .i64 act,.agg (aO op' lit' head' name' hi' lo' A' args'.length cap')] wx _:=hcall wx (by omega) hbX
     replace hbX:=aa hbX
     have hb':b<wb.heap.size:=by omega
     have hX':=aa hX
     clear hcell hr hcx hbx hcall hX hrc hs'
     cases t with
     |true=>
      go_wp2
      go_roundw
      case rel=>exact ⟨k+1,by omega,by go_num,⟨_,rfl,aa (by rw [ht.out];have:=ht0.out;revert this;cases g<;>cases (args.take k).all (aU p act)<;>simp)⟩,hbX,by omega⟩
      case measure=>simp [intOf];omega
     |false=>
      go_wp2_with (go_at_call 91;refine hX'.out.mono ?_;rintro e w' ⟨rfl,hw1⟩)
      go_roundw
      case rel=>exact ⟨k+1,by omega,by go_num,⟨_,rfl,aa (by rw [ht.out];have:=ht0.out;revert this;rw [hne.out];cases g<;>cases (args.take k).all (aU p act)<;>simp)⟩,aa (hbX.out.trans (hw1.mono (by omega))),by have:=hw1.size;omega⟩
      case measure=>simp [intOf];omega
    ·have hfull:=aa (show t= !(g&&args.all (aU p act)) from by rw [ht0.out,BB (by omega)])
     go_wp2_with (go_at_call 80;refine (mF _ _ _).mono ?_;rintro e w' ⟨rfl,rfl⟩)
     go_ret
     exact ⟨ag (by rw [hv.out,hfull.out]),hw.out.trans (hbr.out.mono (by omega))⟩
theorem pp (b:Bool) (n:Int) (w:World):Calls prog 80 #[.bool b,.int .i64 n] w fun e w'=>e=.returned (.int .i64 (cF b n))∧Below w.heap.size w w':=
 (mF b n w).mono fun _ _ ⟨h1,h2⟩=>⟨h1,h2 ▸ Bi _ _⟩
theorem fH (e f:Int) (w:World):Calls prog 82 #[.int .i64 e,.int .i64 f] w fun r w'=>r=.returned (.int .i64 (aQ e f))∧Below w.heap.size w w':=
 (sK e f w).mono fun _ _ ⟨h1,h2⟩=>⟨h1,h2 ▸ Bi _ _⟩
theorem bu.grown {wb:World} {B:Nat} {A1 A2 A3 A4 A5 A6 A7:Option Addr} {p:Pg} (h:bu wb B A1 A2 A3 A4 A5 A6 A7 p) (hB:B≤wb.heap.size) (d:Nat) (os:Array Obj):
  B≤(Bl (redrawn wb d) os).heap.size∧bu (Bl (redrawn wb d) os) B A1 A2 A3 A4 A5 A6 A7 p:=
 ⟨Bj hB (cH wb d os),h.below ((below_regrown wb d os).mono hB)⟩
theorem xn (A1 A2 A3 A4 A5 A6 A7:Option Addr) (p:Pg) (c1 c2 c3 c4 c5 c6 c7:Nat) (act:Int) (B:Nat) (s:St) (cs:List Value) (w:World) (hB:B≤w.heap.size) (hP:bu w B A1 A2 A3 A4 A5 A6 A7 p) (h:dR w B cs s):
  Calls prog 89 #[.agg (aq p A1 A2 A3 A4 A5 A6 A7 c1 c2 c3 c4 c5 c6 c7),.int .i64 act,.agg cs.toArray] w fun r w'=>r=.returned (.int .i64 (eO p act s))∧Below w.heap.size w w':=by
 unfold aq
 obtain ⟨kind,head,name,e,thn,els⟩:=s
 obtain ⟨es,A,cap,A',cap',rfl,-,-,-,he,hT,hE⟩:=RS.inv h
 have l1:=hT.len
 have l2:=hE.len
 obtain ⟨op,lit,ehead,ename,hi,lo,args⟩:=e
 have he':=he
 obtain ⟨Ae,ecap,rfl,-,-,-,-,-,-,hs⟩:=RE.inv he'
 have l3:=hs.len
 show Calls _ _ #[.agg #[.slice A1 p.headers.length c1,.slice A2 p.metas.length c2,.slice A3 p.states.length c3,.slice A4 p.actions.length c4,.slice A5 p.tables.length c5,.slice A6 p.control.length c6,.slice A7 p.emit.length c7],.int .i64 act,.agg #[.int .u8 kind,.string head,.string name,.int .u8 op,.int .i64 lit.1,.int .u64 lit.2.1,.int .u64 lit.2.2,.string ehead,.string ename,.int .i64 hi,.int .i64 lo,.slice Ae args.length ecap,.slice A thn.length cap,.slice A' els.length cap']] _ _
 obtain ⟨wa,hwa,hsa,hba,hca,-⟩:=al w (aq p A1 A2 A3 A4 A5 A6 A7 c1 c2 c3 c4 c5 c6 c7) 30
 obtain ⟨wb,hwb,hsb,hbb,hcb,-⟩:=al wa (nA kind head name op lit ehead ename hi lo Ae args.length ecap A thn.length cap A' els.length cap') 47
 have hw:=hba.trans (hbb.mono (by omega))
 have q:∀ i,wb.cell? ⟨w.heap.size,i,none⟩=wa.cell? ⟨w.heap.size,i,none⟩:=fun i=>hbb.cell (p:=⟨w.heap.size,i,none⟩) (by show w.heap.size<_;omega)
 obtain ⟨z0,z1,z2,z3,z4,z5,z6⟩:=aF (w:=wb) (a:=w.heap.size) fun i=>(q _).trans<|hca i
 simp only [hsa] at hcb
 have y0:wb.cell? ⟨w.heap.size+1,0,none⟩=some (.int .u8 kind):=hcb 0
 have y1:wb.cell? ⟨w.heap.size+1,1,none⟩=some (.string head):=hcb 1
 have y2:wb.cell? ⟨w.heap.size+1,2,none⟩=some (.string name):=hcb 2
 have y3:wb.cell? ⟨w.heap.size+1,3,none⟩=some (.int .u8 op):=hcb 3
 have y4:wb.cell? ⟨w.heap.size+1,4,none⟩=some (.int .i64 lit.1):=hcb 4
 have y5:wb.cell? ⟨w.heap.size+1,5,none⟩=some (.int .u64 lit.2.1):=hcb 5
 have y6:wb.cell? ⟨w.heap.size+1,6,none⟩=some (.int .u64 lit.2.2):=hcb 6
 have y7:wb.cell? ⟨w.heap.size+1,7,none⟩=some (.string ehead):=hcb 7
 have y8:wb.cell? ⟨w.heap.size+1,8,none⟩=some (.string ename):=hcb 8
 have y9:wb.cell? ⟨w.heap.size+1,9,none⟩=some (.int .i64 hi):=hcb 9
 have y10:wb.cell? ⟨w.heap.size+1,10,none⟩=some (.int .i64 lo):=hcb 10
 have y11:wb.cell? ⟨w.heap.size+1,11,none⟩=some (.slice Ae args.length ecap):=hcb 11
 have hl1:w.heap.size<wb.heap.size:=by omega
 have hl2:w.heap.size+1<wb.heap.size:=by omega
 have hz2:w.heap.size+2≤wb.heap.size:=by omega
 have hBb:B≤wb.heap.size:=by omega
 have hP2:=aa (hP.below (hw.mono hB))
 have hE2:=aa (ai.keep he fun q hq=>(hw.mono hB).cell hq)
 obtain ⟨r,hr⟩:∃ r,eO p act (.mk kind head name (.mk op lit ehead ename hi lo args) thn els)=r:=⟨_,rfl⟩
 have hv:=aa hr
 simp only [eO] at hv
 replace hr:=aa hr
 have hN:∀ W,B≤W.heap.size→Below wb.heap.size wb W→Calls prog 91 #[.agg (aq p A1 A2 A3 A4 A5 A6 A7 c1 c2 c3 c4 c5 c6 c7),.int .i64 act,.agg (aO op lit ehead ename hi lo Ae args.length ecap)] W _:=
  fun W h1 h2=>kl A1 A2 A3 A4 A5 A6 A7 p c1 c2 c3 c4 c5 c6 c7 act B (.mk op lit ehead ename hi lo args) _ W h1 (hP2.out.below (h2.mono hBb)) (ai.keep hE2.out fun q hq=>(h2.mono hBb).cell hq)
 generalize cZ p act (.mk op lit ehead ename hi lo args)=nm at hv hN
 replace hN:=aa hN
 replace hw:=aa hw
 have hb0:Below wb.heap.size wb wb:=Bi _ _
 have hg:=ax hb0 (Bm _)
 have hI:∀ b n d os,Hid (Calls prog 80 #[.bool b,.int .i64 n] (Bl (redrawn wb d) os) _):=fun b n d os=>aa (pp b n _)
 have hEi:∀ x y d os,Hid (Calls prog 82 #[.int .i64 x,.int .i64 y] (Bl (redrawn wb d) os) _):=fun x y d os=>aa (fH x y _)
 clear hca hcb hs hP q hba hbb h he he' hT hE
 replace hsb:=aa hsb
 by_cases h3:kind=3
 focus
  subst h3
  simp only [if_true] at hv
  have hT:∀ d os,Hid (Calls prog 90 #[.agg (aq p A1 A2 A3 A4 A5 A6 A7 c1 c2 c3 c4 c5 c6 c7),.string name] (Bl (redrawn wb d) os) _):=fun d os=>aa (ov _ A1 A2 A3 A4 A5 A6 A7 p c1 c2 c3 c4 c5 c6 c7 name (hP2.out.grown hBb d os).1 (hP2.out.grown hBb d os).2)
  generalize eE p name=z at hv hT
  go_enter func89,ntmps89
  go_wp2_with fail
  refine cD ?_
  repeat (any_goals (first|go_big_quiet_step (first|(go_at_call 80;with_reducible exact Bh (hI _ _ _ _).out)|(go_at_call 82;with_reducible exact Bh (hEi _ _ _ _).out)|(go_at_call 90;with_reducible exact Bh (hT _ _).out))|quiet_step (first|(go_at_call 80;with_reducible exact Bh (hI _ _ _ _).out)|(go_at_call 82;with_reducible exact Bh (hEi _ _ _ _).out)|(go_at_call 90;with_reducible exact Bh (hT _ _).out))))
  refine wpQuiet_nil ?_
  intro w1 hw1
  replace hw1:=ac hw1
  go_wp2
  go_ret
  exact ⟨ag (hv.out.trans hr.out.symm),hw.out.trans (hw1.mono (by omega))⟩
 rotate_right
 focus
  by_cases h67:kind=6∨kind=7
  focus
   simp only [if_neg h3,if_pos h67] at hv
   have hH:=cK wb A1 A2 A3 A4 A5 A6 A7 p c1 c2 c3 c4 c5 c6 c7 head hBb hP2.out
   generalize ap p head=z at hv hH
   replace hH:=aa hH
   clear hg hb0 h3
   go_enter func89,ntmps89
   rcases h67 with rfl|rfl
   all_goals
    go_wp2_with (first|(go_at_call 83;refine hH.out.mono ?_;rintro e w1 ⟨rfl,hw1⟩)|(go_at_call 80;refine (mF _ _ _).mono ?_;rintro e w' ⟨rfl,rfl⟩))
    go_ret
    exact ⟨ag (hv.out.trans hr.out.symm),hw.out.trans (hw1.mono (by omega))⟩
  rotate_right
  focus
   by_cases h4:kind=4
   focus
    simp only [if_neg h3,if_neg h67,if_pos h4] at hv
    subst h4
    clear hg hb0 h3 h67
    go_enter func89,ntmps89
    go_wp2
    go_ret
    exact ⟨ag (hv.out.trans hr.out.symm),hw.out⟩
   rotate_right
   focus
    by_cases h1:kind=1
    focus
     simp only [if_neg h3,if_neg h67,if_neg h4,if_pos h1] at hv
     subst h1
     clear h3 h67 h4
     have hM:∀ d os,Hid (Calls prog 85 #[.agg (aq p A1 A2 A3 A4 A5 A6 A7 c1 c2 c3 c4 c5 c6 c7),.string name] (Bl (redrawn wb d) os) _):=fun d os=>aa (gL _ A1 A2 A3 A4 A5 A6 A7 p c1 c2 c3 c4 c5 c6 c7 name (hP2.out.grown hBb d os).1 (hP2.out.grown hBb d os).2)
     have hH:∀ d os,Hid (Calls prog 83 #[.agg (aq p A1 A2 A3 A4 A5 A6 A7 c1 c2 c3 c4 c5 c6 c7),.string head] (Bl (redrawn wb d) os) _):=fun d os=>aa (cK _ A1 A2 A3 A4 A5 A6 A7 p c1 c2 c3 c4 c5 c6 c7 head (hP2.out.grown hBb d os).1 (hP2.out.grown hBb d os).2)
     have hF:∀ d os,Hid (Calls prog 84 #[.agg (aq p A1 A2 A3 A4 A5 A6 A7 c1 c2 c3 c4 c5 c6 c7),.int .i64 (ap p head),.string name] (Bl (redrawn wb d) os) _):=fun d os=>aa (fG _ A1 A2 A3 A4 A5 A6 A7 p c1 c2 c3 c4 c5 c6 c7 (ap p head) name (hP2.out.grown hBb d os).1 (hP2.out.grown hBb d os).2)
     generalize ct p name=zm at hv hM
     generalize aJ p (ap p head) name=zf at hv hF
     generalize ap p head=zh at hH hF
     have wn:wb.heap.size≤wb.heap.size:=Bm _
     go_enter func89,ntmps89
     by_cases hh:head=aB
     focus
      have q1:(head.toList== [])=true:=by rw [ak.1 hh];rfl
      have q2:head.toList.isEmpty=true:=by rw [ak.1 hh];rfl
      simp only [if_pos hh] at hv
      clear hh
      cases hd:decide (zm<0)
     rotate_right
     focus
      have q1:(head.toList== [])=false:=by rw [beq_eq_false_iff_ne];exact fun h=>hh (ak.2 h)
      have q2:head.toList.isEmpty=false:=by rw [B9];exact fun h=>hh (ak.2 h)
      simp only [if_neg hh] at hv
      clear hh
      cases hd:decide (zf<0)
    rotate_right
    focus
     simp only [if_neg h3,if_neg h67,if_neg h4,if_neg h1] at hv
     have hX:=aa (hN.out wb hBb hb0)
     have n6:¬kind=6:=fun h=>h67 (.inl h)
     have n7:¬kind=7:=fun h=>h67 (.inr h)
     clear hg hb0 h67
     go_enter func89,ntmps89
     go_wp2_with (go_at_call 91;refine hX.out.mono ?_;rintro e w1 ⟨rfl,hw1⟩)
     go_ret
     exact ⟨ag (hv.out.trans hr.out.symm),hw.out.trans (hw1.mono (by omega))⟩
 all_goals
  rw [hd] at hv
  go_wp2_with fail
  refine cD ?_
  repeat (any_goals (first|go_big_quiet_step (first|(go_at_call 85;with_reducible exact Bh (hM _ _).out)|(go_at_call 83;with_reducible exact Bh (hH _ _).out)|(go_at_call 84;with_reducible exact Bh (hF _ _).out))|quiet_step (first|(go_at_call 85;with_reducible exact Bh (hM _ _).out)|(go_at_call 83;with_reducible exact Bh (hH _ _).out)|(go_at_call 84;with_reducible exact Bh (hF _ _).out))))
  refine wpQuiet_nil ?_
  intro w1 hw1
  replace hw1:=ac hw1
  go_wp2_with fail
  have hn1:∀ d os,Hid (Calls prog 91 #[.agg (aq p A1 A2 A3 A4 A5 A6 A7 c1 c2 c3 c4 c5 c6 c7),.int .i64 act,.agg (aO op lit ehead ename hi lo Ae args.length ecap)] (Bl (redrawn w1 d) os) _):=fun d os=>aa (hN.out _ (by have:=cH w1 d os;have:=hw1.size;omega) (aA hw1 hw1.size d os))
  have hi1:∀ b n d os,Hid (Calls prog 80 #[.bool b,.int .i64 n] (Bl (redrawn w1 d) os) _):=fun b n d os=>aa (pp b n _)
  have he1:∀ x y d os,Hid (Calls prog 82 #[.int .i64 x,.int .i64 y] (Bl (redrawn w1 d) os) _):=fun x y d os=>aa (fH x y _)
  have hg1:=ax hw1 hw1.size
  have hc1:=ab hw1
  replace hw1:=aa hw1
  clear hg
  refine cD ?_
  repeat (any_goals (first|go_big_quiet_step (first|(go_at_call 80;with_reducible exact Bh (hi1 _ _ _ _).out)|(go_at_call 82;with_reducible exact Bh (he1 _ _ _ _).out)|(go_at_call 91;with_reducible exact Bh (hn1 _ _).out))|quiet_step (first|(go_at_call 80;with_reducible exact Bh (hi1 _ _ _ _).out)|(go_at_call 82;with_reducible exact Bh (he1 _ _ _ _).out)|(go_at_call 91;with_reducible exact Bh (hn1 _ _).out))))
  refine wpQuiet_nil ?_
  intro w2 hw2
  replace hw2:=ac hw2
  go_wp2
  go_ret
  exact ⟨ag (hv.out.trans hr.out.symm),(hw.out.trans (hw1.out.mono (by omega))).trans (hw2.mono (by have:=hw1.out.size;omega))⟩
theorem dB {α:Type} [DecidableEq α] {l:List α} {a:α} (h:¬bb l a<0):∃ k:Nat,k<l.length∧bb l a=(k:Int):=by
 unfold bb at h ⊢
 by_cases hm:a∈l
 ·rw [if_pos hm];exact ⟨_,pc a l hm,rfl⟩
 ·rw [if_neg hm] at h;omega
theorem uP (A1 A2 A3 A4 A5 A6 A7:Option Addr) (p:Pg) (c1 c2 c3 c4 c5 c6 c7:Nat) (B:Nat) (t:Ta) (B1 B2 B3:Option Addr) (d1 d2 d3:Nat) (w:World) (hB:B≤w.heap.size) (hP:bu w B A1 A2 A3 A4 A5 A6 A7 p) (lk:t.keys.length≤maxLen) (hA:Sl 1 iy w B B2 t.actions) (ld:t.dargs.length≤maxLen):
  Calls prog 93 #[.agg (aq p A1 A2 A3 A4 A5 A6 A7 c1 c2 c3 c4 c5 c6 c7),.agg #[.string t.name,.slice B1 t.keys.length d1,.slice B2 t.actions.length d2,.string t.dname,.slice B3 t.dargs.length d3]] w fun r w'=>r=.returned (.int .i64 (eP p t))∧Below w.heap.size w w':=by
 unfold aq
 have l1:t.keys.length≤9223372036854775807:=lk
 have l2:=hA.len
 have l3:t.dargs.length≤9223372036854775807:=ld
 obtain ⟨wa,hwa,hsa,hba,hca,-⟩:=al w (aq p A1 A2 A3 A4 A5 A6 A7 c1 c2 c3 c4 c5 c6 c7) 30
 obtain ⟨wb,hwb,hsb,hbb,hcb,-⟩:=al wa #[.string t.name,.slice B1 t.keys.length d1,.slice B2 t.actions.length d2,.string t.dname,.slice B3 t.dargs.length d3] 58
 have hw:=hba.trans (hbb.mono (by omega))
 have q:∀ i,wb.cell? ⟨w.heap.size,i,none⟩=wa.cell? ⟨w.heap.size,i,none⟩:=fun i=>hbb.cell (p:=⟨w.heap.size,i,none⟩) (by show w.heap.size<_;omega)
 obtain ⟨z0,z1,z2,z3,z4,z5,z6⟩:=aF (w:=wb) (a:=w.heap.size) fun i=>(q _).trans<|hca i
 simp only [hsa] at hcb
 obtain ⟨y0,y1,y2,y3,y4⟩:=fR hcb
 have hl1:w.heap.size<wb.heap.size:=by omega
 have hl2:w.heap.size+1<wb.heap.size:=by omega
 have hz2:w.heap.size+2≤wb.heap.size:=by omega
 have hBb:B≤wb.heap.size:=by omega
 have hP2:=aa (hP.below (hw.mono hB))
 have hA2:=aa ((hA.below aW (hw.mono hB)).more aW hBb)
 have la:=hP.actions.len
 obtain ⟨r,hr⟩:∃ r,eP p t=r:=⟨_,rfl⟩
 have hv:=aa hr
 simp only [eP] at hv
 replace hr:=aa hr
 replace hw:=aa hw
 have hb0:Below wb.heap.size wb wb:=Bi _ _
 have hC:=mD B2 d2 t.actions t.dname wb hA2.out
 have hAc:=aa (gc wb A1 A2 A3 A4 A5 A6 A7 p c1 c2 c3 c4 c5 c6 c7 t.dname hBb hP2.out)
 clear hca hcb hP q hba hbb hA
 replace hsb:=aa hsb
 go_enter func93,ntmps93
 by_cases hm:t.dname∈t.actions
 ·rw [decide_eq_true hm] at hC
  replace hC:=aa hC
  simp only [if_pos hm] at hv
  clear hm
  by_cases h0:bz p t.dname<0
  ·simp only [if_pos h0] at hv
   generalize bz p t.dname=z at h0 hAc
   go_wp2_with (first|(go_at_call 160;refine hC.out.mono ?_;rintro e w' ⟨rfl,rfl⟩)|(go_at_call 38;refine hAc.out.mono ?_;rintro e w1 ⟨rfl,hw1⟩))
   go_ret
   exact ⟨ag (hv.out.trans hr.out.symm),hw.out.trans (hw1.mono (by omega))⟩
  ·simp only [if_neg h0] at hv
   obtain ⟨k,hk,he⟩:=dB (l:=p.actions.map Ac.name) (a:=t.dname) h0
   rw [List.length_map] at hk
   have hvk:bz p t.dname=(k:Int):=he
   rw [hvk,BM,Bk hk,Option.elim_some] at hv
   rw [hvk] at hAc
   clear he h0 hvk
   obtain ⟨b,o,ecs,hA4,hb,hel,hcell,A',c',A'',c'',rfl,hn,hF,hG⟩:=hP2.out.actions.2 k _ (Bk hk)
   subst hA4
   have l4:=hF.len
   have l5:=hG.len
   have hbw:b<wb.heap.size:=by omega
   obtain ⟨x0,x1,x2⟩:=dl hcell
   have hkz:(k:Int)<(p.actions.length:Int):=by omega
   clear hcell hF hG
   generalize p.actions[k].params.length=n at*
   simp only [Int.ofNat_lt] at hv
   go_wp2_with (first|(go_at_call 160;refine hC.out.mono ?_;rintro e w' ⟨rfl,rfl⟩)|(go_at_call 38;refine hAc.out.mono ?_;rintro e w1 ⟨rfl,hw1⟩;have hc1:=ab hw1))
   have hg1:=ax hw1 hw1.size
   have hi1:∀ b n d os,Hid (Calls prog 80 #[.bool b,.int .i64 n] (Bl (redrawn w1 d) os) _):=fun b n d os=>aa (pp b n _)
   have he1:∀ x y d os,Hid (Calls prog 82 #[.int .i64 x,.int .i64 y] (Bl (redrawn w1 d) os) _):=fun x y d os=>aa (fH x y _)
   replace hw1:=aa hw1
   refine cD ?_
   repeat (any_goals (first|go_big_quiet_step (first|(go_at_call 80;with_reducible exact Bh (hi1 _ _ _ _).out)|(go_at_call 82;with_reducible exact Bh (he1 _ _ _ _).out))|quiet_step (first|(go_at_call 80;with_reducible exact Bh (hi1 _ _ _ _).out)|(go_at_call 82;with_reducible exact Bh (he1 _ _ _ _).out))))
   refine wpQuiet_nil ?_
   intro w2 hw2
   replace hw2:=ac hw2
   go_wp2
   go_ret
   exact ⟨ag (hv.out.trans hr.out.symm),(hw.out.trans (hw1.out.mono (by omega))).trans (hw2.mono (by have:=hw1.out.size;omega))⟩
 ·rw [decide_eq_false hm] at hC
  replace hC:=aa hC
  simp only [if_neg hm] at hv
  go_wp2_with (go_at_call 160;refine hC.out.mono ?_;rintro e w' ⟨rfl,rfl⟩)
  go_ret
  exact ⟨ag (hv.out.trans hr.out.symm),hw.out⟩
end Go.Proofs.YtbbdhknagofghaaGreat

import Derived.Test.YtbbdhknagofghaaGreatTcp31
import Derived.Test.YtbbdhknagofghaaGreatTcp16
set_option linter.all false
set_option maxHeartbeats 2000000
set_option maxRecDepth 100000
open Go.Proofs.Tryz
namespace Go.Proofs.YtbbdhknagofghaaGreat
open _root_.Nat renaming lt_of_lt_of_le→Bg, zero_le→Bo
open _root_.Go.RowKit.Below renaming refl→Bi
open _root_.List renaming getElem?_eq_getElem→Bk, isEmpty_iff→Bx, cons_append→BC, nil_append→BH
open _root_.Bool renaming true_and→Bt, false_and→Bu, eq_false_iff→BD, and_assoc→BJ
open Go.RowKit
theorem m7 {B:Nat} (t:Ta) (cs:List Value) (w:World) (hB:B≤w.heap.size) (hr:wT w B cs t):
  Calls prog 104 #[.agg cs.toArray] w fun r w'=>r=.returned (.bool (ob t))∧Below w.heap.size w w':=by
 obtain ⟨A1,c1,A2,c2,A3,c3,rfl,hn,hd,hK,hT,hL⟩:=hr
 have l1:=hK.len
 have l2:=hT.len
 have l3:=hL.len
 obtain ⟨wa,hwa,hsa,hba,hca,-⟩:=al w #[.string t.name,.slice A1 t.keys.length c1,.slice A2 t.actions.length c2,.string t.dname,.slice A3 t.dargs.length c3] 58
 obtain ⟨y0,y1,y2,y3,y4⟩:=fR hca
 have hb0:Below wa.heap.size wa wa:=Bi _ _
 have hBk:=aa (show ∀ W,Below wa.heap.size wa W→Below w.heap.size w W from fun W hb=>hba.trans (hb.mono (by omega)))
 have hk:∀ W,Below wa.heap.size wa W→Below B w W:=fun W hb=>(hba.trans (hb.mono (by omega))).mono hB
 have hBW:∀ W,Below wa.heap.size wa W→B≤W.heap.size:=fun W hb=>by have:=hb.size;omega
 have hl0:w.heap.size<wa.heap.size:=by omega
 have q1:=aa (fun (W:World) (hb:Below wa.heap.size wa W)=>(bG t.name W).mono (fun e w' h=>(⟨h.1,hb.trans (h.2.mono hb.size)⟩:e=_∧Below wa.heap.size wa w')))
 have q2:=aa (fun (W:World) (hb:Below wa.heap.size wa W)=>(gl t.actions A2 c2 W (hBW W hb) (hT.below aW (hk W hb))).mono (fun e w' h=>(⟨h.1,hb.trans (h.2.mono hb.size)⟩:e=_∧Below wa.heap.size wa w')))
 have q3:=aa (fun (W:World) (hb:Below wa.heap.size wa W)=>(bG t.dname W).mono (fun e w' h=>(⟨h.1,hb.trans (h.2.mono hb.size)⟩:e=_∧Below wa.heap.size wa w')))
 have hKa:=aa (hK.below jX (hk wa hb0))
 have hLa:=aa (hL.below mc (hk wa hb0))
 have hv0:ob t=(av t.name&&(decide (1≤t.keys.length)&&(decide (t.keys.length≤4)&&(decide (1≤t.actions.length)&&(decide (t.actions.length≤16)&&(t.actions.all av&&(av t.dname&&(decide (t.dargs.length≤8)&&(t.keys.all sB&&t.dargs.all cr))))))))):=by
  simp only [ob,Bool.decide_and,BJ]
  generalize t.keys.all sB=a
  generalize t.actions.all av=b
  generalize av t.dname=c
  generalize t.dargs.all cr=d
  generalize decide (1≤t.actions.length)=f
  generalize decide (t.actions.length≤16)=g
  generalize decide (t.dargs.length≤8)=h
  cases a<;>cases b<;>cases c<;>cases d<;>cases f<;>cases g<;>cases h<;>simp
 generalize av t.name=z1 at q1 hv0
 generalize t.actions.all av=z2 at q2 hv0
 generalize av t.dname=z3 at q3 hv0
 show Calls _ _ #[.agg #[.string t.name,.slice A1 t.keys.length c1,.slice A2 t.actions.length c2,.string t.dname,.slice A3 t.dargs.length c3]] _ _
 clear hca hba hk hBW hK hT hL hsa
 go_enter func104,ntmps104
 cases z1
 rw [Bu] at hv0
 rotate_right
 focus
  rw [Bt] at hv0
  by_cases n1:1≤t.keys.length
  focus
   rw [decide_eq_true n1,Bt] at hv0
   have i1:1≤(t.keys.length:Int):=by omega
   have j1:¬((t.keys.length:Int)<1):=by omega
   by_cases n2:t.keys.length≤4
   focus
    rw [decide_eq_true n2,Bt] at hv0
    have i2:(t.keys.length:Int)≤4:=by omega
    have j2:¬((4:Int)<(t.keys.length:Int)):=by omega
    by_cases n3:1≤t.actions.length
    focus
     rw [decide_eq_true n3,Bt] at hv0
     have i3:1≤(t.actions.length:Int):=by omega
     have j3:¬((t.actions.length:Int)<1):=by omega
     by_cases n4:t.actions.length≤16
     focus
      rw [decide_eq_true n4,Bt] at hv0
      have i4:(t.actions.length:Int)≤16:=by omega
      have j4:¬((16:Int)<(t.actions.length:Int)):=by omega
      cases z2
      rw [Bu] at hv0
      rotate_right
      focus
       rw [Bt] at hv0
       cases z3
       rw [Bu] at hv0
       rotate_right
       focus
        rw [Bt] at hv0
        by_cases n7:t.dargs.length≤8
        focus
         rw [decide_eq_true n7,Bt] at hv0
         have i7:(t.dargs.length:Int)≤8:=by omega
         have j7:¬((8:Int)<(t.dargs.length:Int)):=by omega
         have hv:=aa hv0
         clear hv0
         go_wp2_with (first|(go_at_call 100;first|(with_reducible refine (q1.out _ ‹_›).mono ?_;rintro e w1 ⟨rfl,hb1⟩;have khb1:=ab hb1)|(with_reducible refine (q3.out _ ‹_›).mono ?_;rintro e w1 ⟨rfl,hb3⟩;have khb3:=ab hb3))|(go_at_call 105;first|(with_reducible refine (q2.out _ ‹_›).mono ?_;rintro e w1 ⟨rfl,hb2⟩;have khb2:=ab hb2)))
         have hb4:=aa hb3
         clear q1 q2 q3 hb1 hb2 hb3 khb1 khb2 khb3 hb0
         clear n1 i1 j1 n2 i2 j2 n3 i3 j3 n4 i4 j4 n7 i7 j7
         go_loopw [3] (fun i wr=>∃ k:Nat,k≤t.keys.length∧i=.int .i64 k∧Hid ((t.keys.take k).all sB=true)∧Hid (Below wa.heap.size wa wr)) (fun i _=>t.keys.length-(intOf i).toNat)
         case atStart=>exact ⟨0,Bo _,rfl,aa (by simp),hb4⟩
         case round=>
          clear hb4
          obtain ⟨k,hkk,rfl,hq,hbr⟩:=hrel
          have hc:=ab hbr.out
          have hzr:=hbr.out.size
          by_cases hlt:k<t.keys.length
          ·obtain ⟨b,o,ecs,hA,hb,hel,hcell,es,hes,hk8,hr'⟩:=hKa.out.2 k _ (Bk hlt)
           subst hA
           have hltz:(k:Int)<(t.keys.length:Int):=by omega
           have hbw:b<wa.heap.size:=by omega
           have hcall:=fun cs (hcs:dL wa B cs t.keys[k].e)=>fx t.keys[k].e cs wr (show B≤wr.heap.size by omega) (ai.keep hcs fun q hq=>hbr.out.cell (Bg hq (by omega)))
           have hnx:=fun h=>ci (p:=sB) hlt hq.out h
           have hst:=fun h=>bT (p:=sB) hlt h
           have hre:=hr'
           have hky:sB t.keys[k]=(cj t.keys[k].e&&decide (1≤t.keys[k].kind∧t.keys[k].kind≤3)):=rfl
           rw [hky] at hnx hst
           generalize t.keys[k]=kx at hr' hre hcall hnx hst hky hk8 hes
           obtain ⟨⟨xop,xlit,xhead,xname,xhi,xlo,xargs⟩,xk⟩:=kx
           obtain ⟨XA,xcap,rfl,-,-,-,-,-,-,xs⟩:=RE.inv hr'
           have hla2:=xs.len
           have hes':ecs= [.int .u8 xop,.int .i64 xlit.1,.int .u64 xlit.2.1,.int .u64 xlit.2.2,.string xhead,.string xname,.int .i64 xhi,.int .i64 xlo,.slice XA xargs.length xcap,.int .u8 xk]:=by rw [hes];simp only [uA,BC,BH]
           clear hes
           subst hes'
           obtain ⟨x0,x1,x2,x3,x4,x5,x6,x7,x8,x9⟩:=jU hcell
           have hX:Calls prog 172 #[.agg (aO xop xlit xhead xname xhi xlo XA xargs.length xcap)] wr fun r w'=>r=.returned (.bool (cj (.mk xop xlit xhead xname xhi xlo xargs)))∧(Below wr.heap.size wr w'∧Below wa.heap.size wa w'):=(hcall _ hre).mono fun e w' h=>⟨h.1,h.2,hbr.out.trans (h.2.mono hzr)⟩
           clear hcell hr' hre hcall xs hky hk8 hel
           simp only at hnx hst
           generalize cj (.mk xop xlit xhead xname xhi xlo xargs)=z at hX hnx hst
           cases z with
           |false=>
            have hres:=aa (hst rfl)
            clear hnx hst
            go_wp2_with (go_at_call 172;refine hX.mono ?_;rintro e w2 ⟨rfl,hb2,hbw2⟩)
            go_ret
            exact ⟨ah (hv.out.trans (by rw [hres.out];rfl)).symm,hBk.out _ hbw2⟩
           |true=>
            by_cases g1:1≤xk
            ·by_cases g2:xk≤3
             ·have hres:=aa (hnx (by simp [g1,g2]))
              have g1':¬xk<1:=by omega
              have g2':¬3<xk:=by omega
              clear hnx hst
              go_wp2_with (go_at_call 172;refine hX.mono ?_;rintro e w2 ⟨rfl,hb2,hbw2⟩;have k2:=ab hbw2)
              go_roundw
              case rel=>exact ⟨k+1,by omega,by go_num,hres,aa hbw2⟩
              case measure=>simp [intOf];omega
             ·have hres:=aa (hst (by simp [g2]))
              have g1':¬xk<1:=by omega
              have g2':3<xk:=by omega
              clear hnx hst
              go_wp2_with (go_at_call 172;refine hX.mono ?_;rintro e w2 ⟨rfl,hb2,hbw2⟩;have k2:=ab hbw2)
              go_ret
              exact ⟨ah (hv.out.trans (by rw [hres.out];rfl)).symm,hBk.out _ hbw2⟩
            ·have hres:=aa (hst (by simp [g1]))
             have g1':xk<1:=by omega
             clear hnx hst
             go_wp2_with (go_at_call 172;refine hX.mono ?_;rintro e w2 ⟨rfl,hb2,hbw2⟩;have k2:=ab hbw2)
             go_ret
             exact ⟨ah (hv.out.trans (by rw [hres.out];rfl)).symm,hBk.out _ hbw2⟩
          ·have hkeys:=aa (cJ hq.out hlt)
           go_wp2
           have hbr0:=hbr
           clear hbr hq hlt hkk hc hzr
           go_loopw [4] (fun i wr=>∃ k:Nat,k≤t.dargs.length∧i=.int .i64 k∧Hid ((t.dargs.take k).all cr=true)∧Hid (Below wa.heap.size wa wr)) (fun i _=>t.dargs.length-(intOf i).toNat)
           case atStart=>exact ⟨0,Bo _,rfl,aa (by simp),hbr0⟩
           case round=>
            clear hbr0
            obtain ⟨k,hkk,rfl,hq,hbr⟩:=hrel
            have hc:=ab hbr.out
            have hzr:=hbr.out.size
            by_cases hlt:k<t.dargs.length
            ·obtain ⟨b,o,ecs,hA,hb,hel,hcell,rfl,hok⟩:=hLa.out.2 k _ (Bk hlt)
             subst hA
             have hltz:(k:Int)<(t.dargs.length:Int):=by omega
             have hbw:b<wa.heap.size:=by omega
             have hX:=eH t.dargs[k] wr hok
             have hnx:=fun h=>ci (p:=cr) hlt hq.out h
             have hst:=fun h=>bT (p:=cr) hlt h
             generalize t.dargs[k]=x at hX hnx hst hcell
             obtain ⟨x0,x1,x2⟩:=dl hcell
             clear hcell hok hel
             generalize cr x=z at hX hnx hst
             cases z with
             |false=>
              have hres:=aa (hst rfl)
              clear hnx hst
              go_wp2_with (go_at_call 173;refine hX.mono ?_;rintro e w2 ⟨rfl,hb2⟩)
              go_ret
              exact ⟨ah (hv.out.trans (by rw [hkeys.out,hres.out];rfl)).symm,hBk.out _ (hbr.out.trans (hb2.mono hzr))⟩
             |true=>
              have hres:=aa (hnx rfl)
              clear hnx hst
              go_wp2_with (go_at_call 173;refine hX.mono ?_;rintro e w2 ⟨rfl,hb2⟩)
              go_roundw
              case rel=>exact ⟨k+1,by omega,by go_num,hres,aa (hbr.out.trans (hb2.mono hzr))⟩
              case measure=>simp [intOf];omega
            ·have hres:=aa (cJ hq.out hlt)
             go_wp2
             go_ret
             exact ⟨ah (hv.out.trans (by rw [hkeys.out,hres.out];rfl)).symm,hBk.out _ hbr.out⟩
        rotate_right
        rw [decide_eq_false n7,Bu] at hv0
        have i7:¬((t.dargs.length:Int)≤8):=by omega
        have j7:(8:Int)<(t.dargs.length:Int):=by omega
     rotate_right
     rw [decide_eq_false n4,Bu] at hv0
     have i4:¬((t.actions.length:Int)≤16):=by omega
     have j4:(16:Int)<(t.actions.length:Int):=by omega
    rotate_right
    rw [decide_eq_false n3,Bu] at hv0
    have i3:¬(1≤(t.actions.length:Int)):=by omega
    have j3:(t.actions.length:Int)<1:=by omega
   rotate_right
   rw [decide_eq_false n2,Bu] at hv0
   have i2:¬((t.keys.length:Int)≤4):=by omega
   have j2:(4:Int)<(t.keys.length:Int):=by omega
  rotate_right
  rw [decide_eq_false n1,Bu] at hv0
  have i1:¬(1≤(t.keys.length:Int)):=by omega
  have j1:(t.keys.length:Int)<1:=by omega
 all_goals
  have hv:=aa hv0
  clear hv0
  go_wp2_with (first|(go_at_call 100;first|(with_reducible refine (q1.out _ ‹_›).mono ?_;rintro e w1 ⟨rfl,hb1⟩;have khb1:=ab hb1)|(with_reducible refine (q3.out _ ‹_›).mono ?_;rintro e w1 ⟨rfl,hb3⟩;have khb3:=ab hb3))|(go_at_call 105;first|(with_reducible refine (q2.out _ ‹_›).mono ?_;rintro e w1 ⟨rfl,hb2⟩;have khb2:=ab hb2)))
  go_ret
  exact ⟨ah hv.out.symm,hBk.out _ ‹_›⟩
theorem m8 {B:Nat} (s:Sa) (cs:List Value) (w:World) (hB:B≤w.heap.size) (hr:wS w B cs s):
  Calls prog 102 #[.agg cs.toArray] w fun r w'=>r=.returned (.bool (lT s))∧Below w.heap.size w w':=by
 obtain ⟨A1,c1,A2,c2,A3,c3,rfl,hn,hd,hT,hK,hC⟩:=hr
 have l1:=hT.len
 have l2:=hK.len
 have l3:=hC.len
 obtain ⟨wa,hwa,hsa,hba,hca,-⟩:=al w #[.string s.name,.slice A1 s.takes.length c1,.string s.dest,.slice A2 s.keys.length c2,.slice A3 s.cases_.length c3] 61
 obtain ⟨y0,y1,y2,y3,y4⟩:=fR hca
 have hb0:Below wa.heap.size wa wa:=Bi _ _
 have hBk:=aa (show ∀ W,Below wa.heap.size wa W→Below w.heap.size w W from fun W hb=>hba.trans (hb.mono (by omega)))
 have hk:∀ W,Below wa.heap.size wa W→Below B w W:=fun W hb=>(hba.trans (hb.mono (by omega))).mono hB
 have hBW:∀ W,Below wa.heap.size wa W→B≤W.heap.size:=fun W hb=>by have:=hb.size;omega
 have hl0:w.heap.size<wa.heap.size:=by omega
 have q1:=aa (fun (W:World) (hb:Below wa.heap.size wa W)=>(bG s.name W).mono (fun e w' h=>(⟨h.1,hb.trans (h.2.mono hb.size)⟩:e=_∧Below wa.heap.size wa w')))
 have q2:=aa (fun (W:World) (hb:Below wa.heap.size wa W)=>(gl s.takes A1 c1 W (hBW W hb) (hT.below aW (hk W hb))).mono (fun e w' h=>(⟨h.1,hb.trans (h.2.mono hb.size)⟩:e=_∧Below wa.heap.size wa w')))
 have q3:=aa (fun (W:World) (hb:Below wa.heap.size wa W)=>(jJ s.dest W).mono (fun e w' h=>(⟨h.1,hb.trans (h.2.mono hb.size)⟩:e=_∧Below wa.heap.size wa w')))
 have q4:=aa (fun (W:World) (hb:Below wa.heap.size wa W)=>(rH s.keys A2 c2 W (hBW W hb) (hK.below ai (hk W hb))).mono (fun e w' h=>(⟨h.1,hb.trans (h.2.mono hb.size)⟩:e=_∧Below wa.heap.size wa w')))
 have hCa:=aa (hC.below eD (hk wa hb0))
 show Calls _ _ #[.agg #[.string s.name,.slice A1 s.takes.length c1,.string s.dest,.slice A2 s.keys.length c2,.slice A3 s.cases_.length c3]] _ _
 generalize hzn:av s.name=z1 at q1
 generalize hzt:s.takes.all av=z2 at q2
 clear hca hba hk hBW hT hK hC hsa
 by_cases hs:s.dest=aB
 focus
  have hv0:lT s=(z1&&(decide (s.takes.length≤8)&&(z2&&(decide (1≤s.keys.length)&&(decide (s.keys.length≤4)&&(decide (1≤s.cases_.length)&&(decide (s.cases_.length≤16)&&(s.keys.all cj&&s.cases_.all (ua s.keys.length))))))))):=by
   unfold lT
   rw [if_pos hs,hzn,hzt]
   simp only [Bool.decide_and,BJ]
  have e1:=ak.1 hs
  clear hs hzn hzt q3
  generalize s.keys.all cj=z4 at q4 hv0
  go_enter func102,ntmps102
  cases z1
  rw [Bu] at hv0
  rotate_right
  focus
   rw [Bt] at hv0
   by_cases n1:s.takes.length≤8
   focus
    rw [decide_eq_true n1,Bt] at hv0
    have i1:(s.takes.length:Int)≤8:=by omega
    have j1:¬((8:Int)<(s.takes.length:Int)):=by omega
    cases z2
    rw [Bu] at hv0
    rotate_right
    focus
     rw [Bt] at hv0
     by_cases n3:1≤s.keys.length
     focus
      rw [decide_eq_true n3,Bt] at hv0
      have i3:1≤(s.keys.length:Int):=by omega
      have j3:¬((s.keys.length:Int)<1):=by omega
      by_cases n4:s.keys.length≤4
      focus
       rw [decide_eq_true n4,Bt] at hv0
       have i4:(s.keys.length:Int)≤4:=by omega
       have j4:¬((4:Int)<(s.keys.length:Int)):=by omega
       by_cases n5:1≤s.cases_.length
       focus
        rw [decide_eq_true n5,Bt] at hv0
        have i5:1≤(s.cases_.length:Int):=by omega
        have j5:¬((s.cases_.length:Int)<1):=by omega
        by_cases n6:s.cases_.length≤16
        focus
         rw [decide_eq_true n6,Bt] at hv0
         have i6:(s.cases_.length:Int)≤16:=by omega
         have j6:¬((16:Int)<(s.cases_.length:Int)):=by omega
         cases z4
         rw [Bu] at hv0
         rotate_right
         focus
          rw [Bt] at hv0
          have hv:=aa hv0
          clear hv0
          go_wp2_with (first|(go_at_call 100;first|(with_reducible refine (q1.out _ ‹_›).mono ?_;rintro e w1 ⟨rfl,hb1⟩;have khb1:=ab hb1))|(go_at_call 105;first|(with_reducible refine (q2.out _ ‹_›).mono ?_;rintro e w1 ⟨rfl,hb2⟩;have khb2:=ab hb2))|(go_at_call 169;first|(with_reducible refine (q4.out _ ‹_›).mono ?_;rintro e w1 ⟨rfl,hb3⟩;have khb3:=ab hb3)))
          have hb4:=aa hb3
          clear q1 q2 q4 hb1 hb2 hb3 khb1 khb2 khb3 hb0 e1
          go_loopw [3] (fun i wr=>∃ k:Nat,k≤s.cases_.length∧i=.int .i64 k∧Hid ((s.cases_.take k).all (ua s.keys.length)=true)∧Hid (Below wa.heap.size wa wr)) (fun i _=>s.cases_.length-(intOf i).toNat)
          case atStart=>exact ⟨0,Bo _,rfl,aa (by simp),hb4⟩
          case round=>
           clear hb4
           obtain ⟨k,hkk,rfl,hq,hbr⟩:=hrel
           have hc:=ab hbr.out
           have hzr:=hbr.out.size
           by_cases hlt:k<s.cases_.length
           ·obtain ⟨b,o,ecs,hA,hb,hel,hcell,CA,cc,rfl,hcd,hSs⟩:=hCa.out.2 k _ (Bk hlt)
            subst hA
            have hltz:(k:Int)<(s.cases_.length:Int):=by omega
            have hbw:b<wa.heap.size:=by omega
            have hcl:=hSs.len
            have hnext:=aa (fun h=>ci (p:=ua s.keys.length) hlt hq.out h)
            have hstop:=aa (fun h=>bT (p:=ua s.keys.length) hlt h)
            have hcb:ua s.keys.length s.cases_[k]=(bY s.cases_[k].dest&&decide (s.cases_[k].sets.length=if s.cases_[k].dflt then 0 else s.keys.length)&&s.cases_[k].sets.all fA):=rfl
            rw [hcb] at hnext hstop
            clear hcb
            generalize s.cases_[k]=cx at hcell hSs hcl hnext hstop hcd
            obtain ⟨N,hN⟩:∃ N,cx.sets.length=N:=⟨_,rfl⟩
            rw [hN] at hcell hcl
            replace hSs:=aa hSs
            obtain ⟨x0,x1,x2⟩:=dl hcell
            have hN':=hN
            rw [hN] at hnext hstop
            replace hN:=aa hN'
            clear hcell hN' hel hcd
            generalize cx.dflt=df at*
            obtain ⟨ws,hws,hszs,hwS,hcs,-⟩:=al wr #[.bool df,.slice CA N cc,.string cx.dest] 70
            obtain ⟨v0,v1,v2⟩:=bF hcs
            have hbs:=aa (hbr.out.trans (hwS.mono hzr))
            have hzs:wa.heap.size≤ws.heap.size:=hbs.out.size
            have ks:=ab hbs.out
            have zz1:wr.heap.size<ws.heap.size:=by omega
            have zz2:w.heap.size<ws.heap.size:=by omega
            have hTg:Calls prog 168 #[.string cx.dest] ws fun e w'=>e=.returned (.bool (bY cx.dest))∧(Below ws.heap.size ws w'∧Below wa.heap.size wa w'):=(jJ cx.dest ws).mono fun e w' h=>⟨h.1,h.2,hbs.out.trans (h.2.mono hzs)⟩
            generalize bY cx.dest=zt at hTg hnext hstop
            clear hcs hwS hszs hbr
            obtain ⟨wo,rfl⟩:∃ wo:World,wo=wr:=⟨_,rfl⟩
            cases zt with
            |false=>
             go_wp2_with (go_at_call 168;refine hTg.mono ?_;rintro e w4 ⟨rfl,hb4,hbw4⟩;have k4:=ab hb4;have k5:=ab hbw4;have z4a:=Bg zz1 hb4.size;have z4b:=Bg zz2 hb4.size)
             go_ret
             exact ⟨ah (hv.out.trans (hstop.out (by simp [*]))).symm,hBk.out _ hbw4⟩
            |true=>
             cases df with
             |true=>
              by_cases hn0:N=0
              ·subst hn0
               go_wp2_with (go_at_call 168;refine hTg.mono ?_;rintro e w4 ⟨rfl,hb4,hbw4⟩;have k4:=ab hb4;have k5:=ab hbw4;have z4a:=Bg zz1 hb4.size;have z4b:=Bg zz2 hb4.size)
               have hb5:=aa hb4
               clear hb4 hbw4 k4 k5 hTg z4a z4b
               go_loopw [5] (fun i wx=>∃ q:Nat,q≤0∧i=.int .i64 q∧Hid ((cx.sets.take q).all fA=true)∧Hid (Below ws.heap.size ws wx)) (fun i _=>0-(intOf i).toNat)
               case atStart=>exact ⟨0,Bo _,rfl,aa (by simp),hb5⟩
               case round=>
                clear hb5
                obtain ⟨q,hqq,rfl,hqa,hbx⟩:=hrel
                have hbv:=aa (hbs.out.trans (hbx.out.mono hzs))
                have kx:=ab hbx.out
                have kv:=ab hbv.out
                have hzx:=hbx.out.size
                have zx1:wo.heap.size<wr.heap.size:=by omega
                have zx2:w.heap.size<wr.heap.size:=by omega
                by_cases hqt:q<0
                ·exact absurd hqt (Nat.not_lt_zero _)
                ·have hres:=aa (cJ (p:=fA) hqa.out (show ¬q<cx.sets.length by have:=hN.out;omega))
                 go_wp2
                 go_roundw
                 case rel=>exact ⟨k+1,by omega,by go_num,aa (hnext.out (by rw [hres.out];simp)),hbv⟩
                 case measure=>simp [intOf];omega
              ·have hn0':(0:Int)<(N:Int):=by omega
               go_wp2_with (go_at_call 168;refine hTg.mono ?_;rintro e w4 ⟨rfl,hb4,hbw4⟩;have k4:=ab hb4;have k5:=ab hbw4;have z4a:=Bg zz1 hb4.size;have z4b:=Bg zz2 hb4.size)
               go_ret
               exact ⟨ah (hv.out.trans (hstop.out (by simp [*]))).symm,hBk.out _ hbw4⟩
             |false=>
              by_cases hn0:N=s.keys.length
              ·subst hn0
               go_wp2_with (go_at_call 168;refine hTg.mono ?_;rintro e w4 ⟨rfl,hb4,hbw4⟩;have k4:=ab hb4;have k5:=ab hbw4;have z4a:=Bg zz1 hb4.size;have z4b:=Bg zz2 hb4.size)
               have hb5:=aa hb4
               clear hb4 hbw4 k4 k5 hTg z4a z4b
               go_loopw [5] (fun i wx=>∃ q:Nat,q≤s.keys.length∧i=.int .i64 q∧Hid ((cx.sets.take q).all fA=true)∧Hid (Below ws.heap.size ws wx)) (fun i _=>s.keys.length-(intOf i).toNat)
               case atStart=>exact ⟨0,Bo _,rfl,aa (by simp),hb5⟩
               case round=>
                clear hb5
                obtain ⟨q,hqq,rfl,hqa,hbx⟩:=hrel
                have hbv:=aa (hbs.out.trans (hbx.out.mono hzs))
                have kx:=ab hbx.out
                have kv:=ab hbv.out
                have hzx:=hbx.out.size
                have zx1:wo.heap.size<wr.heap.size:=by omega
                have zx2:w.heap.size<wr.heap.size:=by omega
                by_cases hqt:q<s.keys.length
                ·have hqn:q<cx.sets.length:=by have:=hN.out;omega
                 obtain ⟨b',o',ecs',hA',hb',hel',hcell',rfl,u1,u2,u3⟩:=hSs.out.2 q _ (Bk hqn)
                 subst hA'
                 have hqz:(q:Int)<(s.keys.length:Int):=by omega
                 have hbb:b'<wa.heap.size:=by omega
                 have hX:=pR cx.sets[q] wr u1 u2 u3
                 have hnx:=fun h=>ci (p:=fA) hqn hqa.out h
                 have hst:=fun h=>bT (p:=fA) hqn h
                 generalize cx.sets[q]=x at hX hnx hst hcell'
                 obtain ⟨x0,x1,x2,x3,x4,x5,x6⟩:=wR hcell'
                 clear hcell' u1 u2 u3 hel'
                 generalize fA x=z at hX hnx hst
                 cases z with
                 |false=>
                  have hres:=aa (hst rfl)
                  clear hnx hst
                  go_wp2_with (go_at_call 170;refine hX.mono ?_;rintro e w6 ⟨rfl,hb6⟩)
                  go_ret
                  exact ⟨ah (hv.out.trans (hstop.out (by rw [hres.out];simp))).symm,hBk.out _ (hbv.out.trans (hb6.mono hbv.out.size))⟩
                 |true=>
                  have hres:=aa (hnx rfl)
                  clear hnx hst
                  go_wp2_with (go_at_call 170;refine hX.mono ?_;rintro e w6 ⟨rfl,hb6⟩)
                  go_roundw
                  case rel=>exact ⟨q+1,by omega,by go_num,hres,aa (hbx.out.trans (hb6.mono hzx))⟩
                  case measure=>simp [intOf];omega
                ·have hres:=aa (cJ (p:=fA) hqa.out (show ¬q<cx.sets.length by have:=hN.out;omega))
                 go_wp2
                 go_roundw
                 case rel=>exact ⟨k+1,by omega,by go_num,aa (hnext.out (by rw [hres.out];simp)),hbv⟩
                 case measure=>simp [intOf];omega
              ·have hn0':¬(N:Int)=(s.keys.length:Int):=by omega
               go_wp2_with (go_at_call 168;refine hTg.mono ?_;rintro e w4 ⟨rfl,hb4,hbw4⟩;have k4:=ab hb4;have k5:=ab hbw4;have z4a:=Bg zz1 hb4.size;have z4b:=Bg zz2 hb4.size)
               go_ret
               exact ⟨ah (hv.out.trans (hstop.out (by simp [*]))).symm,hBk.out _ hbw4⟩
           ·have hres:=aa (cJ hq.out hlt)
            go_wp2
            go_ret
            exact ⟨ah (hv.out.trans hres.out).symm,hBk.out _ hbr.out⟩
        rotate_right
        rw [decide_eq_false n6,Bu] at hv0
        have i6:¬((s.cases_.length:Int)≤16):=by omega
        have j6:(16:Int)<(s.cases_.length:Int):=by omega
       rotate_right
       rw [decide_eq_false n5,Bu] at hv0
       have i5:¬(1≤(s.cases_.length:Int)):=by omega
       have j5:(s.cases_.length:Int)<1:=by omega
      rotate_right
      rw [decide_eq_false n4,Bu] at hv0
      have i4:¬((s.keys.length:Int)≤4):=by omega
      have j4:(4:Int)<(s.keys.length:Int):=by omega
     rotate_right
     rw [decide_eq_false n3,Bu] at hv0
     have i3:¬(1≤(s.keys.length:Int)):=by omega
     have j3:(s.keys.length:Int)<1:=by omega
   rotate_right
   rw [decide_eq_false n1,Bu] at hv0
   have i1:¬((s.takes.length:Int)≤8):=by omega
   have j1:(8:Int)<(s.takes.length:Int):=by omega
 rotate_right
 focus
  have hv0:lT s=(z1&&(decide (s.takes.length≤8)&&(z2&&(bY s.dest&&(decide (s.keys.length=0)&&decide (s.cases_.length=0)))))):=by
   unfold lT
   rw [if_neg hs,hzn,hzt]
   have e2:s.keys.isEmpty=decide (s.keys.length=0):=by cases s.keys<;>simp
   have e3:s.cases_.isEmpty=decide (s.cases_.length=0):=by cases s.cases_<;>simp
   rw [e2,e3]
   simp only [BJ]
  have e1:s.dest.toList.isEmpty=false:=by rw [BD];exact fun h=>hs (ak.2 (Bx.1 h))
  clear hs hzn hzt q4 hCa
  generalize bY s.dest=z4 at q3 hv0
  generalize s.keys.length=n2 at*
  generalize s.cases_.length=n3 at*
  go_enter func102,ntmps102
  cases z1
  rw [Bu] at hv0
  have hv:=aa hv0
  clear hv0
  rotate_right
  focus
   rw [Bt] at hv0
   by_cases n1:s.takes.length≤8
   focus
    rw [decide_eq_true n1,Bt] at hv0
    have i1:(s.takes.length:Int)≤8:=by omega
    have j1:¬((8:Int)<(s.takes.length:Int)):=by omega
    cases z2
    rw [Bu] at hv0
    have hv:=aa hv0
    clear hv0
    rotate_right
    focus
     rw [Bt] at hv0
     cases z4
     rw [Bu] at hv0
     have hv:=aa hv0
     clear hv0
     rotate_right
     focus
      rw [Bt] at hv0
      by_cases m2:n2=0
      focus
       rw [decide_eq_true m2,Bt] at hv0
       by_cases m3:n3=0
       focus
        rw [decide_eq_true m3] at hv0
        have hv:=aa hv0
        clear hv0
        subst m2 m3
       rotate_right
       focus
        rw [decide_eq_false m3] at hv0
        have hv:=aa hv0
        have m3':¬(n3:Int)=0:=by omega
        clear hv0
        subst m2
        go_wp2_with (first|(go_at_call 100;first|(with_reducible refine (q1.out _ ‹_›).mono ?_;rintro e w1 ⟨rfl,hb1⟩;have khb1:=ab hb1))|(go_at_call 105;first|(with_reducible refine (q2.out _ ‹_›).mono ?_;rintro e w1 ⟨rfl,hb2⟩;have khb2:=ab hb2))|(go_at_call 168;first|(with_reducible refine (q3.out _ ‹_›).mono ?_;rintro e w1 ⟨rfl,hb3⟩;have khb3:=ab hb3)))
        go_ret
        exact ⟨ah (Eq.trans (by simp;try omega) hv.out.symm),hBk.out _ ‹_›⟩
      rotate_right
      focus
       rw [decide_eq_false m2,Bu] at hv0
       have hv:=aa hv0
       have m2':¬(n2:Int)=0:=by omega
       clear hv0
       go_wp2_with (first|(go_at_call 100;first|(with_reducible refine (q1.out _ ‹_›).mono ?_;rintro e w1 ⟨rfl,hb1⟩;have khb1:=ab hb1))|(go_at_call 105;first|(with_reducible refine (q2.out _ ‹_›).mono ?_;rintro e w1 ⟨rfl,hb2⟩;have khb2:=ab hb2))|(go_at_call 168;first|(with_reducible refine (q3.out _ ‹_›).mono ?_;rintro e w1 ⟨rfl,hb3⟩;have khb3:=ab hb3)))
       go_ret
       exact ⟨ah (Eq.trans (by simp;try omega) hv.out.symm),hBk.out _ ‹_›⟩
   rotate_right
   rw [decide_eq_false n1,Bu] at hv0
   have i1:¬((s.takes.length:Int)≤8):=by omega
   have j1:(8:Int)<(s.takes.length:Int):=by omega
   have hv:=aa hv0
   clear hv0
  all_goals
   go_wp2_with (first|(go_at_call 100;first|(with_reducible refine (q1.out _ ‹_›).mono ?_;rintro e w1 ⟨rfl,hb1⟩;have khb1:=ab hb1))|(go_at_call 105;first|(with_reducible refine (q2.out _ ‹_›).mono ?_;rintro e w1 ⟨rfl,hb2⟩;have khb2:=ab hb2))|(go_at_call 168;first|(with_reducible refine (q3.out _ ‹_›).mono ?_;rintro e w1 ⟨rfl,hb3⟩;have khb3:=ab hb3)))
   go_ret
   exact ⟨ah hv.out.symm,hBk.out _ ‹_›⟩
 all_goals
  have hv:=aa hv0
  clear hv0
  go_wp2_with (first|(go_at_call 100;first|(with_reducible refine (q1.out _ ‹_›).mono ?_;rintro e w1 ⟨rfl,hb1⟩;have khb1:=ab hb1))|(go_at_call 105;first|(with_reducible refine (q2.out _ ‹_›).mono ?_;rintro e w1 ⟨rfl,hb2⟩;have khb2:=ab hb2))|(go_at_call 169;first|(with_reducible refine (q4.out _ ‹_›).mono ?_;rintro e w1 ⟨rfl,hb3⟩;have khb3:=ab hb3)))
  go_ret
  exact ⟨ah hv.out.symm,hBk.out _ ‹_›⟩
end Go.Proofs.YtbbdhknagofghaaGreat

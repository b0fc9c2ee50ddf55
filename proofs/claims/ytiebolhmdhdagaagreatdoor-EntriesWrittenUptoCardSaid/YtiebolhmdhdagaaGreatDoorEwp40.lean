import Derived.Test.YtiebolhmdhdagaaGreatDoorEwp38
import Derived.Test.YtiebolhmdhdagaaGreatDoorEwp39
set_option linter.all false
set_option maxHeartbeats 8000000
set_option maxRecDepth 100000
open Go.Proofs.Tryz
namespace Go.Proofs.YtiebolhmdhdagaaGreatDoor
open _root_.Nat renaming lt_of_lt_of_le→He, le_refl→Hh, le_trans→Hj, zero_le→Hm, le_of_lt→Hs
open _root_.Go.RowKit.Below renaming refl→Hf
open _root_.Bool renaming false_and→Hg, true_and→Hk
open _root_.Go.Calls renaming regrown_of→Hi
open _root_.List renaming getElem?_eq_getElem→Hn, getElem_mem→Ho, all_eq_true→Hx, take_length→HZ
open _root_.Go.Sort renaming grow→Ht
open _root_.Int renaming eq_ofNat_of_zero_le→Hv
open Go.RowKit
theorem za (A1 A2 A3 A4 A5 A6 A7 A8 A9 A10 A11 A12:Option Addr) (p:Lp) (c1 c2 c3 c4 c5 c6 c7 c8 c9 c10 c11 c12:Nat) (x:aR) (P1 P2:Option Addr) (d1 d2:Nat) (w:World) (h:cJ w w.heap.size A1 A2 A3 A4 A5 A6 A7 A8 A9 A10 A11 A12 p) (hkk:∀ t∈p.tabs,t.kinds.length=t.keys.length) (h1:Sl 4 mR w w.heap.size P1 x.pats) (h2:Sl 2 ke w w.heap.size P2 x.run.args):
  Calls prog 23 #[.agg #[.slice A1 p.heads.length c1,.slice A2 p.metas.length c2,.slice A3 p.steps.length c3,.slice A4 p.acts.length c4,.slice A5 p.tabs.length c5,.slice A6 p.control.length c6,.slice A7 p.emit.length c7,.slice A8 p.nh.length c8,.slice A9 p.nf.length c9,.slice A10 p.nm.length c10,.slice A11 p.na.length c11,.slice A12 p.nt.length c12],sf P1 d1 P2 d2 x] w fun e w'=>e=.returned (.bool (cC p x))∧Below w.heap.size w w':=by
 obtain ⟨tab,pats,len,prio,act,args⟩:=x
 simp only at h1 h2 ⊢
 have lp1:=h1.len
 have lt5:=h.tabs.len
 obtain ⟨wz,hwz,hsz,hbz,hcz,-⟩:=ak w #[.slice A1 p.heads.length c1,.slice A2 p.metas.length c2,.slice A3 p.steps.length c3,.slice A4 p.acts.length c4,.slice A5 p.tabs.length c5,.slice A6 p.control.length c6,.slice A7 p.emit.length c7,.slice A8 p.nh.length c8,.slice A9 p.nf.length c9,.slice A10 p.nm.length c10,.slice A11 p.na.length c11,.slice A12 p.nt.length c12] 33
 obtain ⟨wa,hwa,hsa,hba,hca,-⟩:=ak wz #[.int .i64 tab,.slice P1 pats.length d1,.int .i64 len,.int .i64 prio,.int .i64 act,.slice P2 args.length d2] 57
 obtain ⟨y0,y1,y2,y3,y4,y5,y6,y7,y8,y9,y10,y11⟩:=aC fun i=>(bH hba w.heap.size i (by omega)).trans (hcz i)
 rw [hsz] at hca
 obtain ⟨x0,x1,x2,x3,x4,x5⟩:=iK hca
 have l1:w.heap.size<wa.heap.size:=by omega
 have l2:w.heap.size+1<wa.heap.size:=by omega
 have hw:Below w.heap.size w wa:=hbz.trans (hba.mono (by omega))
 have hP:=aa (fun (W:World) (hW:Below wa.heap.size wa W)=>((h.below hw).below (hW.mono hw.size)).more (Hj hw.size hW.size))
 have hPt:=aa (fun (W:World) (hW:Below wa.heap.size wa W)=>((h1.below aL hw).below aL (hW.mono hw.size)).more aL (Hj hw.size hW.size))
 have hNu:=aa (fun (W:World) (hW:Below wa.heap.size wa W)=>((h2.below aw hw).below aw (hW.mono hw.size)).more aw (Hj hw.size hW.size))
 have hTb:=aa ((hP.out wa (Hf _ _)).tabs)
 have hfin:=aa (fun (W:World) (hW:Below wa.heap.size wa W)=>hw.trans (hW.mono hw.size))
 replace hsa:=aa hsa
 clear hcz hca hba hbz h h1 h2 hw
 go_enter func23,ntmps23
 rcases dt p.tabs tab with ⟨k,rfl,hk,e1⟩|⟨e1,e2,e3⟩
 focus
  have hkz:(k:Int)<(p.tabs.length:Int):=by omega
  have g1:decide ((k:Int)<0)=false:=decide_eq_false (by omega)
  have g2:decide ((p.tabs.length:Int)≤(k:Int))=false:=decide_eq_false (by omega)
  have g2':decide (p.tabs.length≤k)=false:=decide_eq_false (by omega)
  have hv:=aa (C1 (p:=p) (e:=⟨(k:Int),pats,len,prio,⟨act,args⟩⟩) e1)
  have hkl:=aa (hkk _ (Ho hk))
  generalize cC p ⟨(k:Int),pats,len,prio,⟨act,args⟩⟩=RES at hv ⊢
  by_cases hp0:0≤prio
  ·have g3:decide (prio<0)=false:=decide_eq_false (by omega)
   by_cases hp1:prio≤65536
   ·have g4:decide ((65536:Int)<prio)=false:=decide_eq_false (by omega)
    have hv1:=aa (hv.out.trans (by rw [pF hp0 hp1,Hk]))
    obtain ⟨b,o,ecs,rfl,hb,hn,hcell,Q1,Q2,Q3,Q4,q1,q2,q3,q4,rfl,s1,s2,s3,s4,-,-⟩:=hTb.out.2 k _ (Hn hk)
    have z0:wa.cell? ⟨b,o+k*5,none⟩=some (.slice Q1 p.tabs[k].keys.length q1):=hcell 0 _ rfl
    have z1:wa.cell? ⟨b,o+k*5+1,none⟩=some (.slice Q2 p.tabs[k].kinds.length q2):=hcell 1 _ rfl
    have z2:wa.cell? ⟨b,o+k*5+2,none⟩=some (.slice Q3 p.tabs[k].acts.length q3):=hcell 2 _ rfl
    have z3:wa.cell? ⟨b,o+k*5+3,none⟩=some (.int .i64 p.tabs[k].run.act):=hcell 3 _ rfl
    have z4:wa.cell? ⟨b,o+k*5+4,none⟩=some (.slice Q4 p.tabs[k].run.args.length q4):=hcell 4 _ rfl
    obtain ⟨wb,hwb,hsb,hbb,hcb,-⟩:=ak wa #[.slice Q1 p.tabs[k].keys.length q1,.slice Q2 p.tabs[k].kinds.length q2,.slice Q3 p.tabs[k].acts.length q3,.int .i64 p.tabs[k].run.act,.slice Q4 p.tabs[k].run.args.length q4] 108
    have hS:=aa (fun (W:World) (hW:Below wb.heap.size wb W)=>(⟨(s1.keep aS fun q hq=>(hW.cell (He hq hbb.size)).trans (hbb.cell hq)).more (B':=W.heap.size) aS (Hj hbb.size hW.size),(s2.keep bX fun q hq=>(hW.cell (He hq hbb.size)).trans (hbb.cell hq)).more (B':=W.heap.size) bX (Hj hbb.size hW.size),(s3.keep ai fun q hq=>(hW.cell (He hq hbb.size)).trans (hbb.cell hq)).more (B':=W.heap.size) ai (Hj hbb.size hW.size)⟩:Sl 1 ro W W.heap.size Q1 p.tabs[k].keys∧Sl 1 Ct W W.heap.size Q2 p.tabs[k].kinds∧Sl 1 bd W W.heap.size Q3 p.tabs[k].acts))
    have lk1:=s1.len
    generalize p.tabs[k]=t at*
    obtain ⟨t0,t1,t2,t3,t4⟩:=rB hcb
    have K:=ah hbb
    have la:wa.heap.size<wb.heap.size:=by omega
    have m1:w.heap.size<wb.heap.size:=by omega
    have m2:w.heap.size+1<wb.heap.size:=by omega
    have Y0:=(K.1 _ 0 l1).trans y0
    have Y1:=(K.1 _ 1 l1).trans y1
    have Y2:=(K.1 _ 2 l1).trans y2
    have Y3:=(K.1 _ 3 l1).trans y3
    have Y4:=(K.1 _ 4 l1).trans y4
    have Y5:=(K.1 _ 5 l1).trans y5
    have Y6:=(K.1 _ 6 l1).trans y6
    have Y7:=(K.1 _ 7 l1).trans y7
    have Y8:=(K.1 _ 8 l1).trans y8
    have Y9:=(K.1 _ 9 l1).trans y9
    have Y10:=(K.1 _ 10 l1).trans y10
    have Y11:=(K.1 _ 11 l1).trans y11
    have X0:=(K.1 _ 0 l2).trans x0
    have X1:=(K.1 _ 1 l2).trans x1
    have X2:=(K.1 _ 2 l2).trans x2
    have X3:=(K.1 _ 3 l2).trans x3
    have X4:=(K.1 _ 4 l2).trans x4
    have X5:=(K.1 _ 5 l2).trans x5
    have hbb':=aa hbb
    replace hsb:=aa hsb
    clear hcb hbb K hTb hcell s1 s2 s3 s4 hv hkk hn
    by_cases hlen:pats.length=t.keys.length
    ·have g5:((pats.length:Int) !=(t.keys.length:Int))=false:=by rw [hlen];exact bne_self_eq_false _
     have hv2:=aa (hv1.out.trans (by rw [decide_eq_true hlen,Hk]))
     have hR:=kT A1 A2 A3 A4 (some ⟨b,o,none⟩) A6 A7 A8 A9 A10 A11 A12 p c1 c2 c3 c4 c5 c6 c7 c8 c9 c10 c11 c12 Q3 P2 q3 d2 t.acts ⟨act,args⟩ wb (hP.out wb hbb'.out) (hS.out wb (Hf _ _)).2.2 (hNu.out wb hbb'.out)
     simp only at hR
     generalize dD p t.acts ⟨act,args⟩=R at hR hv2
     replace hR:=aa hR
     replace hlen:=aa hlen
     cases R with
     |false=>
      have hv3:=aa (hv2.out.trans (Hg _))
      go_wp2_with (go_at_call 68;refine hR.out.mono ?_;rintro e w3 ⟨rfl,hb3⟩)
      go_ret
      exact ⟨ad hv3.out.symm,hfin.out _ (hbb'.out.trans (hb3.mono (Hs la)))⟩
     |true=>
      have hv3:=aa (hv2.out.trans (Hk _))
      obtain ⟨f,hf⟩:∃ f:Nat→Pt→Int→Option Int,f=fun i x n=>xA (Ek p t i) (cB t i) x n:=⟨_,rfl⟩
      rw [←hf] at hv3
      replace hf:=aa (fun i x n=>congrFun (congrFun (congrFun hf i) x) n)
      go_wp2_with (go_at_call 68;refine hR.out.mono ?_;rintro e w3 ⟨rfl,hb3⟩;have kk:=ah hb3;clear kk)
      go_loopw [6,7,8,9,10,11] (fun ln c _ _ _ _ wr=>∃ (j:Nat) (n:Int),j≤pats.length∧c=.int .i64 j∧ln=.int .i64 n∧Hid (cQ f 0 (pats.take j) 0=some n)∧Hid (Below wb.heap.size wb wr)) (fun _ c _ _ _ _ _=>pats.length-(intOf c).toNat)
      case atStart=>exact ⟨0,0,Hm _,rfl,rfl,aa (by simp [cQ]),aa hb3⟩
      case round=>
       clear hb3
       obtain ⟨j,n,hj1,rfl,rfl,hfd,hbr⟩:=hrel
       have kr:=ah hbr.out
       have hzr:=hbr.out.size
       have Z1:=(kr.1 _ 1 m2).trans X1
       have Z2:=(kr.1 _ 2 m2).trans X2
       have m2r:=He m2 hzr
       have Z0:=(kr.1 _ 0 la).trans t0
       have lar:=He la hzr
       by_cases hlt:j<pats.length
       focus
        have hlk:j<t.keys.length:=by rw [←hlen.out];exact hlt
        have hlkd:j<t.kinds.length:=by rw [hkl.out];exact hlk
        have hltz:(j:Int)<(pats.length:Int):=by omega
        have hltk:(j:Int)<(t.keys.length:Int):=by omega
        have hltkd:(j:Int)<(t.kinds.length:Int):=by omega
        obtain ⟨pb,po,hPA,hpb,u0,u1,u2,u3,okx⟩:=(hPt.out wr (hbb'.out.trans (hbr.out.mono (Hs la)))).pt hlt
        subst hPA
        obtain ⟨gb,og,hA2,hg,hkd⟩:=(hS.out wr hbr.out).2.1.byte hlkd
        subst hA2
        obtain ⟨cb,oc,A',c',hA1,hcb,hcd,hE⟩:=(hS.out wr hbr.out).1.code hlk
        subst hA1
        have hlo:=aa (fun (g:f j pats[j] n=none)=>show cQ f 0 pats 0=none from pw hlt hfd.out g)
        have hhi:=aa (fun (o:Int) (g:f j pats[j] n=some o)=>show cQ f 0 (pats.take (j+1)) 0=some o from pu hlt hfd.out g)
        have hfj:=hf.out j pats[j] n
        rw [Ez hlk,nH hlkd] at hfj
        have hE':=aa hE
        have hP':=aa (hP.out wr (hbb'.out.trans (hbr.out.mono (Hs la))))
        generalize hce:t.keys[j]=ce at*
        generalize pats[j]=x at*
        generalize t.kinds[j]=kd at*
        have hX:∀ d os,Hid (Calls prog 69 #[.agg #[.slice A1 p.heads.length c1,.slice A2 p.metas.length c2,.slice A3 p.steps.length c3,.slice A4 p.acts.length c4,.slice (some ⟨b,o,none⟩) p.tabs.length c5,.slice A6 p.control.length c6,.slice A7 p.emit.length c7,.slice A8 p.nh.length c8,.slice A9 p.nf.length c9,.slice A10 p.nm.length c10,.slice A11 p.na.length c11,.slice A12 p.nt.length c12],.int .i64 (-1),.slice A' ce.length c'] (Ht (redrawn wr d) os) _):=fun d os=>aa (gq A1 A2 A3 A4 (some ⟨b,o,none⟩) A6 A7 A8 A9 A10 A11 A12 p c1 c2 c3 c4 c5 c6 c7 c8 c9 c10 c11 c12 (-1) ce A' c' _ ((hP'.out.below (below_regrown wr d os)).more (below_regrown wr d os).size) ((hE'.out.below bq (below_regrown wr d os)).more bq (below_regrown wr d os).size))
        have W0:=(kr.1 _ 0 m1).trans Y0
        have W1:=(kr.1 _ 1 m1).trans Y1
        have W2:=(kr.1 _ 2 m1).trans Y2
        have W3:=(kr.1 _ 3 m1).trans Y3
        have W4:=(kr.1 _ 4 m1).trans Y4
        have W5:=(kr.1 _ 5 m1).trans Y5
        have W6:=(kr.1 _ 6 m1).trans Y6
        have W7:=(kr.1 _ 7 m1).trans Y7
        have W8:=(kr.1 _ 8 m1).trans Y8
        have W9:=(kr.1 _ 9 m1).trans Y9
        have W10:=(kr.1 _ 10 m1).trans Y10
        have W11:=(kr.1 _ 11 m1).trans Y11
        have V1:=(kr.1 _ 1 la).trans t1
        have G0:=hkd
        have N0:=hcd
        have s0:=hpb
        have s1:=hg
        have s4:=He m1 hzr
        have hgw:=aE (show Below wr.heap.size wr wr from Hf _ _) (Hh _)
        have hbz:=aa hbr.out
        have hzz:=hzr
        unfold Cw at hX
        generalize (jm p (-1) ce).getD 0=y at hX hfj
        generalize (jm p (-1) ce).isSome=is at hX
        have hLn:=aa (fun W=>yZ x y W okx)
        have hMy:=aa (fun W=>qe x y W okx)
        have hMk:=aa (fun d os W=>(uB y (Ht (redrawn W d) os)))
        unfold xA fd at hfj
        generalize zo y x=LN at hLn hfj
        obtain ⟨ln,ls⟩:=LN
        simp only at hLn hfj
        generalize fa y x=m at hMy hfj
        generalize aX (eN y)=MH at hMk hfj
        generalize aP (eN y)=ML at hMk hfj
        unfold EU at hLn hMy
        clear kr hcd hkd hE hE' hP' hce okx hfd
        generalize f j x n=F at hfj hlo hhi
        obtain ⟨vh,vl,mh,ml⟩:=x
        simp only at hLn hMy hfj u0 u1 u2 u3
        go_wp2_with fail
        refine bV ?_
        repeat (any_goals (first|go_big_quiet_step ((go_at_call 69;with_reducible exact Hi (hX _ _).out))|quiet_step ((go_at_call 69;with_reducible exact Hi (hX _ _).out))))
        refine wpQuiet_nil ?_
        intro w1 hw1
        replace hw1:=ac hw1
        clear hgw W0 W1 W2 W3 W4 W5 W6 W7 W8 W9 W10 W11 N0 hX s4 Z0
        have hb':=hw1
        have kk:=ah hb'
        replace u0:=(kk.1 _ _ s0).trans u0
        replace u1:=(kk.1 _ _ s0).trans u1
        replace u2:=(kk.1 _ _ s0).trans u2
        replace u3:=(kk.1 _ _ s0).trans u3
        replace Z1:=(kk.1 _ 1 m2r).trans Z1
        replace V1:=(kk.1 _ 1 lar).trans V1
        replace G0:=(kk.1 _ (og+j) s1).trans G0
        replace s0:=He s0 hb'.size
        replace s1:=He s1 hb'.size
        replace lar:=He lar hb'.size
        replace m2r:=He m2r hb'.size
        replace hbz:=aa (hbz.out.trans (hb'.mono hzz))
        replace hzz:=Hj hzz hb'.size
        clear kk hb' hw1
        cases m
        focus
         have hF:F=none:=by rw [hfj];simp
         replace hlo:=aa (hlo.out hF)
         have hv4:=aa (hv3.out.trans (decide_eq_false (by rw [hlo.out];simp)))
         clear hfj hF hhi hlo
         go_wp2_with (first|(go_at_call 71;refine (hLn.out _).mono ?_;rintro e w' ⟨rfl,hb'⟩;have kk:=ah hb';replace u0:=(kk.1 _ _ s0).trans u0;replace u1:=(kk.1 _ _ s0).trans u1;replace u2:=(kk.1 _ _ s0).trans u2;replace u3:=(kk.1 _ _ s0).trans u3;replace Z1:=(kk.1 _ 1 m2r).trans Z1;replace V1:=(kk.1 _ 1 lar).trans V1;replace G0:=(kk.1 _ (og+j) s1).trans G0;replace s0:=He s0 hb'.size;replace s1:=He s1 hb'.size;replace lar:=He lar hb'.size;replace m2r:=He m2r hb'.size;replace hbz:=aa (hbz.out.trans (hb'.mono hzz));replace hzz:=Hj hzz hb'.size;clear kk hb')|(go_at_call 70;refine (hMy.out _).mono ?_;rintro e w' ⟨rfl,hb'⟩;have kk:=ah hb';replace u0:=(kk.1 _ _ s0).trans u0;replace u1:=(kk.1 _ _ s0).trans u1;replace u2:=(kk.1 _ _ s0).trans u2;replace u3:=(kk.1 _ _ s0).trans u3;replace Z1:=(kk.1 _ 1 m2r).trans Z1;replace V1:=(kk.1 _ 1 lar).trans V1;replace G0:=(kk.1 _ (og+j) s1).trans G0;replace s0:=He s0 hb'.size;replace s1:=He s1 hb'.size;replace lar:=He lar hb'.size;replace m2r:=He m2r hb'.size;replace hbz:=aa (hbz.out.trans (hb'.mono hzz));replace hzz:=Hj hzz hb'.size;clear kk hb'))
         go_ret
         exact ⟨ad hv4.out.symm,hfin.out _ (hbb'.out.trans (hbz.out.mono (Hs la)))⟩
        rotate_right
        focus
         simp only [Bool.true_eq_false,if_false] at hfj
         go_upto_region 14 with (first|(go_at_call 71;refine (hLn.out _).mono ?_;rintro e w' ⟨rfl,hb'⟩;have kk:=ah hb';replace u0:=(kk.1 _ _ s0).trans u0;replace u1:=(kk.1 _ _ s0).trans u1;replace u2:=(kk.1 _ _ s0).trans u2;replace u3:=(kk.1 _ _ s0).trans u3;replace Z1:=(kk.1 _ 1 m2r).trans Z1;replace V1:=(kk.1 _ 1 lar).trans V1;replace G0:=(kk.1 _ (og+j) s1).trans G0;replace s0:=He s0 hb'.size;replace s1:=He s1 hb'.size;replace lar:=He lar hb'.size;replace m2r:=He m2r hb'.size;replace hbz:=aa (hbz.out.trans (hb'.mono hzz));replace hzz:=Hj hzz hb'.size;clear kk hb')|(go_at_call 70;refine (hMy.out _).mono ?_;rintro e w' ⟨rfl,hb'⟩;have kk:=ah hb';replace u0:=(kk.1 _ _ s0).trans u0;replace u1:=(kk.1 _ _ s0).trans u1;replace u2:=(kk.1 _ _ s0).trans u2;replace u3:=(kk.1 _ _ s0).trans u3;replace Z1:=(kk.1 _ 1 m2r).trans Z1;replace V1:=(kk.1 _ 1 lar).trans V1;replace G0:=(kk.1 _ (og+j) s1).trans G0;replace s0:=He s0 hb'.size;replace s1:=He s1 hb'.size;replace lar:=He lar hb'.size;replace m2r:=He m2r hb'.size;replace hbz:=aa (hbz.out.trans (hb'.mono hzz));replace hzz:=Hj hzz hb'.size;clear kk hb'))
         obtain ⟨w2,hw2⟩:∃ w2,w2=w':=⟨_,rfl⟩
         subst hw2
         have hgw:=aE (show Below w2.heap.size w2 w2 from Hf _ _) (Hh _)
         by_cases e1:kd=1
         focus
          have c1:(kd==1)=true:=beq_iff_eq.2 e1
          have c2:(kd==2)=false:=by rw [e1];rfl
          have c3:(kd=1)=True:=eq_true e1
          have c4:(kd=2)=False:=eq_false (by omega)
          clear e1
          by_cases e2:mh=MH
          focus
           subst e2
           by_cases e3:ml=ML
           focus
            subst e3
            have hF:F=some n:=by rw [hfj];simp [c3,c4]
            replace hhi:=aa (hhi.out _ hF)
            clear hfj hF hlo
            go_wp2_with fail
            refine bV ?_
            repeat (any_goals (first|go_big_quiet_step ((go_at_call 72;with_reducible exact Hi (hMk.out _ _ _)))|quiet_step ((go_at_call 72;with_reducible exact Hi (hMk.out _ _ _)))))
            refine wpQuiet_nil ?_
            intro w5 hw5
            replace hw5:=ac hw5
            clear hgw
            have hb':=hw5
            have kk:=ah hb'
            replace u0:=(kk.1 _ _ s0).trans u0
            replace u1:=(kk.1 _ _ s0).trans u1
            replace u2:=(kk.1 _ _ s0).trans u2
            replace u3:=(kk.1 _ _ s0).trans u3
            replace Z1:=(kk.1 _ 1 m2r).trans Z1
            replace V1:=(kk.1 _ 1 lar).trans V1
            replace G0:=(kk.1 _ (og+j) s1).trans G0
            replace s0:=He s0 hb'.size
            replace s1:=He s1 hb'.size
            replace lar:=He lar hb'.size
            replace m2r:=He m2r hb'.size
            replace hbz:=aa (hbz.out.trans (hb'.mono hzz))
            replace hzz:=Hj hzz hb'.size
            clear kk hb' hw5
            go_wp2
            go_roundw
            case rel=>exact ⟨j+1,n,by omega,by go_num,rfl,hhi,hbz⟩
            case measure=>simp [intOf];omega
           rotate_right
           have b1:(ml==ML)=false:=beq_eq_false_iff_ne.2 e3
           have b2:(ml=ML)=False:=eq_false e3
           have hF:F=none:=by rw [hfj];simp [c3,e3]
           replace hlo:=aa (hlo.out hF)
           have hv4:=aa (hv3.out.trans (decide_eq_false (by rw [hlo.out];simp)))
           clear hfj hF hhi hlo
           clear e3
          rotate_right
          have b1:(mh==MH)=false:=beq_eq_false_iff_ne.2 e2
          have b2:(mh=MH)=False:=eq_false e2
          have hF:F=none:=by rw [hfj];simp [c3,e2]
          replace hlo:=aa (hlo.out hF)
          have hv4:=aa (hv3.out.trans (decide_eq_false (by rw [hlo.out];simp)))
          clear hfj hF hhi hlo
          clear e2
         rotate_right
         focus
          have c1:(kd==1)=false:=beq_eq_false_iff_ne.2 e1
          have c3:(kd=1)=False:=eq_false e1
          by_cases e2:kd=2
          ·have c2:(kd==2)=true:=beq_iff_eq.2 e2
           have c4:(kd=2)=True:=eq_true e2
           clear e1 e2
           cases ls with
           |false=>
            have hF:F=none:=by rw [hfj];simp [c3,c4]
            replace hlo:=aa (hlo.out hF)
            have hv4:=aa (hv3.out.trans (decide_eq_false (by rw [hlo.out];simp)))
            clear hfj hF hhi hlo
            go_wp2_with fail
            refine bV ?_
            repeat (any_goals (first|go_big_quiet_step (fail)|quiet_step (fail)))
            refine wpQuiet_nil ?_
            intro w5 hw5
            replace hw5:=ac hw5
            clear hgw
            have hb':=hw5
            have kk:=ah hb'
            replace u0:=(kk.1 _ _ s0).trans u0
            replace u1:=(kk.1 _ _ s0).trans u1
            replace u2:=(kk.1 _ _ s0).trans u2
            replace u3:=(kk.1 _ _ s0).trans u3
            replace Z1:=(kk.1 _ 1 m2r).trans Z1
            replace V1:=(kk.1 _ 1 lar).trans V1
            replace G0:=(kk.1 _ (og+j) s1).trans G0
            replace s0:=He s0 hb'.size
            replace s1:=He s1 hb'.size
            replace lar:=He lar hb'.size
            replace m2r:=He m2r hb'.size
            replace hbz:=aa (hbz.out.trans (hb'.mono hzz))
            replace hzz:=Hj hzz hb'.size
            clear kk hb' hw5
            go_wp2
            go_ret
            exact ⟨ad hv4.out.symm,hfin.out _ (hbb'.out.trans (hbz.out.mono (Hs la)))⟩
           |true=>
            have hF:F=some ln:=by rw [hfj];simp [c3,c4]
            replace hhi:=aa (hhi.out _ hF)
            clear hfj hF hlo
            go_wp2_with fail
            refine bV ?_
            repeat (any_goals (first|go_big_quiet_step (fail)|quiet_step (fail)))
            refine wpQuiet_nil ?_
            intro w5 hw5
            replace hw5:=ac hw5
            clear hgw
            have hb':=hw5
            have kk:=ah hb'
            replace u0:=(kk.1 _ _ s0).trans u0
            replace u1:=(kk.1 _ _ s0).trans u1
            replace u2:=(kk.1 _ _ s0).trans u2
            replace u3:=(kk.1 _ _ s0).trans u3
            replace Z1:=(kk.1 _ 1 m2r).trans Z1
            replace V1:=(kk.1 _ 1 lar).trans V1
            replace G0:=(kk.1 _ (og+j) s1).trans G0
            replace s0:=He s0 hb'.size
            replace s1:=He s1 hb'.size
            replace lar:=He lar hb'.size
            replace m2r:=He m2r hb'.size
            replace hbz:=aa (hbz.out.trans (hb'.mono hzz))
            replace hzz:=Hj hzz hb'.size
            clear kk hb' hw5
            go_wp2
            go_roundw
            case rel=>exact ⟨j+1,ln,by omega,by go_num,rfl,hhi,hbz⟩
            case measure=>simp [intOf];omega
          ·have c2:(kd==2)=false:=beq_eq_false_iff_ne.2 e2
           have c4:(kd=2)=False:=eq_false e2
           clear e1 e2
           have hF:F=some n:=by rw [hfj];simp [c3,c4]
           replace hhi:=aa (hhi.out _ hF)
           clear hfj hF hlo
           go_wp2_with fail
           refine bV ?_
           repeat (any_goals (first|go_big_quiet_step (fail)|quiet_step (fail)))
           refine wpQuiet_nil ?_
           intro w5 hw5
           replace hw5:=ac hw5
           clear hgw
           have hb':=hw5
           have kk:=ah hb'
           replace u0:=(kk.1 _ _ s0).trans u0
           replace u1:=(kk.1 _ _ s0).trans u1
           replace u2:=(kk.1 _ _ s0).trans u2
           replace u3:=(kk.1 _ _ s0).trans u3
           replace Z1:=(kk.1 _ 1 m2r).trans Z1
           replace V1:=(kk.1 _ 1 lar).trans V1
           replace G0:=(kk.1 _ (og+j) s1).trans G0
           replace s0:=He s0 hb'.size
           replace s1:=He s1 hb'.size
           replace lar:=He lar hb'.size
           replace m2r:=He m2r hb'.size
           replace hbz:=aa (hbz.out.trans (hb'.mono hzz))
           replace hzz:=Hj hzz hb'.size
           clear kk hb' hw5
           go_wp2
           go_roundw
           case rel=>exact ⟨j+1,n,by omega,by go_num,rfl,hhi,hbz⟩
           case measure=>simp [intOf];omega
       rotate_right
       focus
        have hje:j=pats.length:=by omega
        subst hje
        have hnk:¬(pats.length:Int)<(t.keys.length:Int):=by have:=hlen.out;omega
        rw [HZ] at hfd
        rw [hfd.out] at hv3
        by_cases he:n=len
        have hv4:=aa (hv3.out.trans (decide_eq_true (by rw [he])))
        have q:(n==len)=true:=by rw [beq_iff_eq];exact he
        rotate_right
        have hv4:=aa (hv3.out.trans (decide_eq_false (by intro g;injection g with g;exact he g)))
        have q:(n==len)=false:=by rw [beq_eq_false_iff_ne];exact he
        all_goals
         clear hv3 he
         go_wp2
         go_ret
         exact ⟨ad hv4.out.symm,hfin.out _ (hbb'.out.trans (hbr.out.mono (Hs la)))⟩
       all_goals
        go_wp2_with fail
        refine bV ?_
        repeat (any_goals (first|go_big_quiet_step ((go_at_call 72;with_reducible exact Hi (hMk.out _ _ _)))|quiet_step ((go_at_call 72;with_reducible exact Hi (hMk.out _ _ _)))))
        refine wpQuiet_nil ?_
        intro w5 hw5
        replace hw5:=ac hw5
        clear hgw
        have hb':=hw5
        have kk:=ah hb'
        replace u0:=(kk.1 _ _ s0).trans u0
        replace u1:=(kk.1 _ _ s0).trans u1
        replace u2:=(kk.1 _ _ s0).trans u2
        replace u3:=(kk.1 _ _ s0).trans u3
        replace Z1:=(kk.1 _ 1 m2r).trans Z1
        replace V1:=(kk.1 _ 1 lar).trans V1
        replace G0:=(kk.1 _ (og+j) s1).trans G0
        replace s0:=He s0 hb'.size
        replace s1:=He s1 hb'.size
        replace lar:=He lar hb'.size
        replace m2r:=He m2r hb'.size
        replace hbz:=aa (hbz.out.trans (hb'.mono hzz))
        replace hzz:=Hj hzz hb'.size
        clear kk hb' hw5
        go_wp2
        go_ret
        exact ⟨ad hv4.out.symm,hfin.out _ (hbb'.out.trans (hbz.out.mono (Hs la)))⟩
    ·have g5:((pats.length:Int) !=(t.keys.length:Int))=true:=by rw [bne_iff_ne];omega
     have hv2:=aa (hv1.out.trans (by rw [decide_eq_false hlen,Hg]))
     clear hlen
     go_wp2
     go_ret
     exact ⟨ad hv2.out.symm,hfin.out _ hbb'.out⟩
   ·have g4:decide ((65536:Int)<prio)=true:=decide_eq_true (by omega)
    have hv1:=aa (hv.out.trans (by rw [pE hp1,Hg]))
    go_wp2
    go_ret
    exact ⟨ad hv1.out.symm,hfin.out _ (Hf _ _)⟩
  ·have g3:decide (prio<0)=true:=decide_eq_true (by omega)
   have hv1:=aa (hv.out.trans (by rw [pD hp0,Hg]))
   go_wp2
   go_ret
   exact ⟨ad hv1.out.symm,hfin.out _ (Hf _ _)⟩
 rotate_right
 focus
  have hv:=aa (AO (e:=⟨tab,pats,len,prio,⟨act,args⟩⟩) e1).2
  have e4:¬(0≤tab∧tab<(p.tabs.length:Int)):=by
   rintro ⟨a,b⟩
   obtain ⟨k,rfl⟩:=Hv a
   rw [iQ k (by omega)] at e1
   cases e1
  by_cases h0:tab<0
  have g1:decide (tab<0)=true:=decide_eq_true h0
  rotate_right
  have g1:decide (tab<0)=false:=decide_eq_false h0
  have g2:decide ((p.tabs.length:Int)≤tab)=true:=decide_eq_true (by omega)
 all_goals
  clear e4 e1 e2 e3
  go_wp2
  go_ret
  exact ⟨ad hv.out.symm,hfin.out _ (Hf _ _)⟩
theorem tK {p:Lp} (hp:DS p) (h:iG p=true):∀ t∈p.tabs,t.kinds.length=t.keys.length:=fun t ht=>(dr ((ck (by rw [zZ p hp];exact h)).2.2 t ht)).2.2.1
theorem od (A1 A2 A3 A4 A5 A6 A7 A8 A9 A10 A11 A12:Option Addr) (p:Lp) (c1 c2 c3 c4 c5 c6 c7 c8 c9 c10 c11 c12:Nat) (A:Option Addr) (cap:Nat) (l:List aR) (w:World) (h:cJ w w.heap.size A1 A2 A3 A4 A5 A6 A7 A8 A9 A10 A11 A12 p) (hE:p.emit.length≤c7) (hok:DS p) (hl:Sl 6 fT w w.heap.size A l):
  Calls prog 8 #[.agg #[.slice A1 p.heads.length c1,.slice A2 p.metas.length c2,.slice A3 p.steps.length c3,.slice A4 p.acts.length c4,.slice A5 p.tabs.length c5,.slice A6 p.control.length c6,.slice A7 p.emit.length c7,.slice A8 p.nh.length c8,.slice A9 p.nf.length c9,.slice A10 p.nm.length c10,.slice A11 p.na.length c11,.slice A12 p.nt.length c12],.slice A l.length cap] w fun e w'=>e=.returned (.bool (rO p l))∧Below w.heap.size w w':=by
 have hll:=hl.len
 obtain ⟨wz,hwz,hsz,hbz,hcz,-⟩:=ak w #[.slice A1 p.heads.length c1,.slice A2 p.metas.length c2,.slice A3 p.steps.length c3,.slice A4 p.acts.length c4,.slice A5 p.tabs.length c5,.slice A6 p.control.length c6,.slice A7 p.emit.length c7,.slice A8 p.nh.length c8,.slice A9 p.nf.length c9,.slice A10 p.nm.length c10,.slice A11 p.na.length c11,.slice A12 p.nt.length c12] 33
 have lx:w.heap.size<wz.heap.size:=by omega
 have hP:=aa (fun (W:World) (hW:Below wz.heap.size wz W)=>((h.below hbz).below (hW.mono hbz.size)).more (Hj hbz.size hW.size))
 have hM:=aa (BV A1 A2 A3 A4 A5 A6 A7 A8 A9 A10 A11 A12 p c1 c2 c3 c4 c5 c6 c7 c8 c9 c10 c11 c12 wz (hP.out wz (Hf _ _)) hE)
 have hL:=aa (fun (W:World) (hW:Below wz.heap.size wz W)=>((hl.below bh hbz).below bh (hW.mono hbz.size)).more bh (Hj hbz.size hW.size))
 have hv:=aa (show rO p l=(iG p&&(decide (l.length≤64)&&l.all (cC p))) from rfl)
 have hgo:=aa (fun (W:World) (hW:Below wz.heap.size wz W)=>hbz.trans (hW.mono hbz.size))
 have Y:=aa hcz
 obtain ⟨y0,y1,y2,y3,y4,y5,y6,y7,y8,y9,y10,y11⟩:=aC hcz
 replace hsz:=aa hsz
 clear hcz hbz h hl
 cases hm:iG p
 rw [hm] at hM hv
 replace hv:=aa (hv.out.trans (Hg _))
 clear hm
 rotate_right
 focus
  have hkk:=aa (tK hok hm)
  rw [hm] at hM hv
  replace hv:=aa (hv.out.trans (Hk _))
  clear hm
  by_cases h64:l.length≤64
  focus
   have d1:decide ((64:Int)<(l.length:Int))=false:=decide_eq_false (by omega)
   have d2:decide (l.length≤64)=true:=decide_eq_true h64
   have d3:decide (64<l.length)=false:=decide_eq_false (by omega)
   replace hv:=aa (hv.out.trans (by rw [d2,Hk]))
   go_enter func8,ntmps8
   go_wp2_with (go_at_call 22;refine hM.out.mono ?_;rintro e w1 ⟨rfl,hb1⟩)
   go_loopw [5] (fun i wr=>∃ j:Nat,j≤l.length∧i=.int .i64 j∧Hid (∀ q (hq:q<l.length),q<j→cC p l[q]=true)∧Hid (Below wz.heap.size wz wr)) (fun i _=>l.length-(intOf i).toNat)
   case atStart=>exact ⟨0,Hm _,rfl,aa (fun q hq h=>absurd h (Nat.not_lt_zero _)),aa hb1⟩
   case round=>
    clear hb1
    obtain ⟨j,hj,rfl,hc,hB⟩:=hrel
    have hzr:=hB.out.size
    by_cases hlt:j<l.length
    ·have hkz:(j:Int)<(l.length:Int):=by omega
     obtain ⟨b,o,P1,P2,c1',c2',hA,hb1,a0,a1,a2,a3,a4,a5,s1,s2⟩:=(hL.out wr hB.out).ent hlt
     subst hA
     have hlx:=He lx hzr
     obtain ⟨t0,t1,t2,t3,t4,t5,t6,t7,t8,t9,t10,t11⟩:=aC fun i=>(hB.out.cell (p:=⟨w.heap.size,i,none⟩) lx).trans (Y.out i)
     have hX:∀ d os,Hid (Calls prog 23 #[.agg #[.slice A1 p.heads.length c1,.slice A2 p.metas.length c2,.slice A3 p.steps.length c3,.slice A4 p.acts.length c4,.slice A5 p.tabs.length c5,.slice A6 p.control.length c6,.slice A7 p.emit.length c7,.slice A8 p.nh.length c8,.slice A9 p.nf.length c9,.slice A10 p.nm.length c10,.slice A11 p.na.length c11,.slice A12 p.nt.length c12],sf P1 c1' P2 c2' l[j]] (Ht (redrawn wr d) os) _):=fun d os=>aa (za A1 A2 A3 A4 A5 A6 A7 A8 A9 A10 A11 A12 p c1 c2 c3 c4 c5 c6 c7 c8 c9 c10 c11 c12 l[j] P1 P2 c1' c2' _ (hP.out _ (hB.out.trans ((below_regrown wr d os).mono hzr))) hkk.out ((s1.below aL (below_regrown wr d os)).more aL (below_regrown wr d os).size) ((s2.below aw (below_regrown wr d os)).more aw (below_regrown wr d os).size))
     have hhi:=aa (fun (g:cC p l[j]=true)=>show ∀ q (hq:q<l.length),q<j+1→cC p l[q]=true from fun q hq h=>by
      by_cases h1:q=j
      ·subst h1;exact g
      ·exact hc.out q hq (by omega))
     have hlo:=aa (fun (g:cC p l[j]=false)=>show l.all (cC p)=false from by
      cases hq:l.all (cC p) with
      |false=>rfl
      |true=>rw [Hx.1 hq _ (Ho hlt)] at g;cases g)
     have hgw:=aE (show Below wr.heap.size wr wr from Hf _ _) (Hh _)
     generalize cC p l[j]=F at hX hhi hlo
     generalize l[j]=e at hX a0 a1 a2 a3 a4 a5 s1 s2
     clear s1 s2 y0 y1 y2 y3 y4 y5 y6 y7 y8 y9 y10 y11
     cases F with
     |true=>
      replace hhi:=aa (hhi.out (by trivial))
      go_wp2_with fail
      refine bV ?_
      repeat (any_goals (first|go_big_quiet_step ((go_at_call 23;with_reducible exact Hi (hX _ _).out))|quiet_step ((go_at_call 23;with_reducible exact Hi (hX _ _).out))))
      refine wpQuiet_nil ?_
      intro w2 hw2
      replace hw2:=ac hw2
      go_wp2
      go_roundw
      case rel=>exact ⟨j+1,by omega,by go_num,hhi,aa (hB.out.trans (hw2.mono hzr))⟩
      case measure=>simp [intOf];omega
     |false=>
      replace hlo:=aa (hlo.out (by trivial))
      go_wp2_with fail
      refine bV ?_
      repeat (any_goals (first|go_big_quiet_step ((go_at_call 23;with_reducible exact Hi (hX _ _).out))|quiet_step ((go_at_call 23;with_reducible exact Hi (hX _ _).out))))
      refine wpQuiet_nil ?_
      intro w2 hw2
      replace hw2:=ac hw2
      go_wp2
      go_ret
      exact ⟨ad (by rw [hv.out,hlo.out]),hgo.out _ (hB.out.trans (hw2.mono hzr))⟩
    ·have hje:j=l.length:=by omega
     subst hje
     have hv2:=aa (hv.out.trans (show l.all (cC p)=true from by
      rw [Hx]
      intro x hx
      obtain ⟨i,hi,rfl⟩:=List.mem_iff_getElem.1 hx
      exact hc.out i hi hi))
     go_wp2
     go_ret
     exact ⟨ad hv2.out.symm,hgo.out _ hB.out⟩
  rotate_right
  have d1:decide ((64:Int)<(l.length:Int))=true:=decide_eq_true (by omega)
  have d2:decide (l.length≤64)=false:=decide_eq_false h64
  have d3:decide (64<l.length)=true:=decide_eq_true (by omega)
  replace hv:=aa (hv.out.trans (by rw [d2,Hg]))
 all_goals
  go_enter func8,ntmps8
  go_wp2_with (go_at_call 22;refine hM.out.mono ?_;rintro e w1 ⟨rfl,hb1⟩)
  go_ret
  exact ⟨ad hv.out.symm,hgo.out _ hb1⟩
end Go.Proofs.YtiebolhmdhdagaaGreatDoor

import Derived.Test.YtijcdfdbkffiaaaGreatDoorCbp32
import Derived.Test.YtijcdfdbkffiaaaGreatDoorCbp30
import Derived.ProofKit
import Derived.Deep.Slices
set_option linter.all false
set_option maxHeartbeats 8000000
set_option maxRecDepth 100000
open Go.Proofs.Tryz
namespace Go.Proofs.YtijcdfdbkffiaaaGreatDoor
open _root_.Nat renaming lt_of_lt_of_le→Hr, le_refl→Ht, le_trans→Hw, zero_le→Hz, le_of_lt→HL, zero_add→H3
open _root_.Go.RowKit.Below renaming refl→Hs
open _root_.Bool renaming false_and→Hu, true_and→Hx, or_eq_true→HS
open _root_.Go.Calls renaming regrown_of→Hv
open _root_.List renaming getElem?_eq_getElem→HA, getElem_mem→HE, length_cons→HN, all_eq_true→HT, mem_cons→HU, range→HX, mem_append→HZ, getElem_of_mem→H0, getElem?_eq_some_iff→H1, mem_range→H5, take_length→H7, getElem?_append_right→Ik, getElem?_append_left→Ip
open _root_.Go.Sort renaming grow→HG
open _root_.Int renaming eq_ofNat_of_zero_le→HH
open Go.RowKit
theorem yh (A1 A2 A3 A4 A5 A6 A7 A8 A9 A10 A11 A12:Option Addr) (p:Lp) (c1 c2 c3 c4 c5 c6 c7 c8 c9 c10 c11 c12:Nat) (x:aA) (P1 P2:Option Addr) (d1 d2:Nat) (w:World) (h:cz w w.heap.size A1 A2 A3 A4 A5 A6 A7 A8 A9 A10 A11 A12 p) (hkk:∀ t∈p.tabs,t.kinds.length=t.keys.length) (h1:Sl 4 gT w w.heap.size P1 x.pats) (h2:Sl 2 f8 w w.heap.size P2 x.run.args):
  Calls prog 25 #[.agg (aO A1 A2 A3 A4 A5 A6 A7 A8 A9 A10 A11 A12 p c1 c2 c3 c4 c5 c6 c7 c8 c9 c10 c11 c12),CI P1 d1 P2 d2 x] w fun e w'=>e=.returned (.bool (cg p x))∧Below w.heap.size w w':=by
 unfold aO
 obtain ⟨tab,pats,len,prio,act,args⟩:=x
 simp only at h1 h2 ⊢
 have lp1:=h1.len
 have lt5:=h.tabs.len
 obtain ⟨wz,hwz,hsz,hbz,hcz,-⟩:=af w (aO A1 A2 A3 A4 A5 A6 A7 A8 A9 A10 A11 A12 p c1 c2 c3 c4 c5 c6 c7 c8 c9 c10 c11 c12) 33
 obtain ⟨wa,hwa,hsa,hba,hca,-⟩:=af wz #[.int .i64 tab,.slice P1 pats.length d1,.int .i64 len,.int .i64 prio,.int .i64 act,.slice P2 args.length d2] 49
 obtain ⟨y0,y1,y2,y3,y4,y5,y6,y7,y8,y9,y10,y11⟩:=aF fun i=>(bj hba w.heap.size i (by omega)).trans (hcz i)
 rw [hsz] at hca
 obtain ⟨x0,x1,x2,x3,x4,x5⟩:=uY hca
 have l1:w.heap.size<wa.heap.size:=by omega
 have l2:w.heap.size+1<wa.heap.size:=by omega
 have hw:Below w.heap.size w wa:=hbz.trans (hba.mono (by omega))
 have hP:=aa (fun (W:World) (hW:Below wa.heap.size wa W)=>((h.below hw).below (hW.mono hw.size)).more (Hw hw.size hW.size))
 have hPt:=aa (fun (W:World) (hW:Below wa.heap.size wa W)=>((h1.below ay hw).below ay (hW.mono hw.size)).more ay (Hw hw.size hW.size))
 have hNu:=aa (fun (W:World) (hW:Below wa.heap.size wa W)=>((h2.below aq hw).below aq (hW.mono hw.size)).more aq (Hw hw.size hW.size))
 have hTb:=aa ((hP.out wa (Hs _ _)).tabs)
 have hfin:=aa (fun (W:World) (hW:Below wa.heap.size wa W)=>hw.trans (hW.mono hw.size))
 replace hsa:=aa hsa
 clear hcz hca hba hbz h h1 h2 hw
 go_enter func25,ntmps25
 rcases di p.tabs tab with ⟨k,rfl,hk,e1⟩|⟨e1,e2,e3⟩
 focus
  have hkz:(k:Int)<(p.tabs.length:Int):=by omega
  have g1:decide ((k:Int)<0)=false:=decide_eq_false (by omega)
  have g2:decide ((p.tabs.length:Int)≤(k:Int))=false:=decide_eq_false (by omega)
  have g2':decide (p.tabs.length≤k)=false:=decide_eq_false (by omega)
  have hv:=aa (CU (p:=p) (e:=⟨(k:Int),pats,len,prio,⟨act,args⟩⟩) e1)
  have hkl:=aa (hkk _ (HE hk))
  generalize cg p ⟨(k:Int),pats,len,prio,⟨act,args⟩⟩=RES at hv ⊢
  by_cases hp0:0≤prio
  ·have g3:decide (prio<0)=false:=decide_eq_false (by omega)
   by_cases hp1:prio≤65536
   ·have g4:decide ((65536:Int)<prio)=false:=decide_eq_false (by omega)
    have hv1:=aa (hv.out.trans (by rw [oA hp0 hp1,Hx]))
    obtain ⟨b,o,ecs,rfl,hb,hn,hcell,Q1,Q2,Q3,Q4,q1,q2,q3,q4,rfl,s1,s2,s3,s4,-,-⟩:=hTb.out.2 k _ (HA hk)
    have z0:wa.cell? ⟨b,o+k*5,none⟩=some (.slice Q1 p.tabs[k].keys.length q1):=hcell 0 _ rfl
    have z1:wa.cell? ⟨b,o+k*5+1,none⟩=some (.slice Q2 p.tabs[k].kinds.length q2):=hcell 1 _ rfl
    have z2:wa.cell? ⟨b,o+k*5+2,none⟩=some (.slice Q3 p.tabs[k].acts.length q3):=hcell 2 _ rfl
    have z3:wa.cell? ⟨b,o+k*5+3,none⟩=some (.int .i64 p.tabs[k].run.act):=hcell 3 _ rfl
    have z4:wa.cell? ⟨b,o+k*5+4,none⟩=some (.slice Q4 p.tabs[k].run.args.length q4):=hcell 4 _ rfl
    obtain ⟨wb,hwb,hsb,hbb,hcb,-⟩:=af wa #[.slice Q1 p.tabs[k].keys.length q1,.slice Q2 p.tabs[k].kinds.length q2,.slice Q3 p.tabs[k].acts.length q3,.int .i64 p.tabs[k].run.act,.slice Q4 p.tabs[k].run.args.length q4] 88
    have hS:=aa (fun (W:World) (hW:Below wb.heap.size wb W)=>(⟨(s1.keep aV fun q hq=>(hW.cell (Hr hq hbb.size)).trans (hbb.cell hq)).more (B':=W.heap.size) aV (Hw hbb.size hW.size),(s2.keep cw fun q hq=>(hW.cell (Hr hq hbb.size)).trans (hbb.cell hq)).more (B':=W.heap.size) cw (Hw hbb.size hW.size),(s3.keep ah fun q hq=>(hW.cell (Hr hq hbb.size)).trans (hbb.cell hq)).more (B':=W.heap.size) ah (Hw hbb.size hW.size)⟩:Sl 1 pT W W.heap.size Q1 p.tabs[k].keys∧Sl 1 B8 W W.heap.size Q2 p.tabs[k].kinds∧Sl 1 bc W W.heap.size Q3 p.tabs[k].acts))
    have lk1:=s1.len
    generalize p.tabs[k]=t at*
    obtain ⟨t0,t1,t2,t3,t4⟩:=p8 hcb
    have K:=ae hbb
    have la:wa.heap.size<wb.heap.size:=by omega
    have m1:w.heap.size<wb.heap.size:=by omega
    have m2:w.heap.size+1<wb.heap.size:=by omega
    have Y0:=(K.1 _ 0 l1).trans y0
    have Y1:=(K.1 _ 1 l1).trans y1
    have Y2:=(K.1 _ 2 l1).trans y2
    have Y3:=(K.1 _ 3 l1).trans y3
    have Y4:=(K.1 _ 4 l1).trans y4
    have Y5:=(K.1 _ 5 l1).trans y5
    have Y6:=(K.1 _ 6 l1).trans y6
    have Y7:=(K.1 _ 7 l1).trans y7
    have Y8:=(K.1 _ 8 l1).trans y8
    have Y9:=(K.1 _ 9 l1).trans y9
    have Y10:=(K.1 _ 10 l1).trans y10
    have Y11:=(K.1 _ 11 l1).trans y11
    have X0:=(K.1 _ 0 l2).trans x0
    have X1:=(K.1 _ 1 l2).trans x1
    have X2:=(K.1 _ 2 l2).trans x2
    have X3:=(K.1 _ 3 l2).trans x3
    have X4:=(K.1 _ 4 l2).trans x4
    have X5:=(K.1 _ 5 l2).trans x5
    have hbb':=aa hbb
    replace hsb:=aa hsb
    clear hcb hbb K hTb hcell s1 s2 s3 s4 hv hkk hn
    by_cases hlen:pats.length=t.keys.length
    ·have g5:((pats.length:Int) !=(t.keys.length:Int))=false:=by rw [hlen];exact bne_self_eq_false _
     have hv2:=aa (hv1.out.trans (by rw [decide_eq_true hlen,Hx]))
     have hR:=jV A1 A2 A3 A4 (some ⟨b,o,none⟩) A6 A7 A8 A9 A10 A11 A12 p c1 c2 c3 c4 c5 c6 c7 c8 c9 c10 c11 c12 Q3 P2 q3 d2 t.acts ⟨act,args⟩ wb (hP.out wb hbb'.out) (hS.out wb (Hs _ _)).2.2 (hNu.out wb hbb'.out)
     simp only at hR
     generalize dH p t.acts ⟨act,args⟩=R at hR hv2
     replace hR:=aa hR
     replace hlen:=aa hlen
     cases R with
     |false=>
      have hv3:=aa (hv2.out.trans (Hu _))
      go_wp2_with (go_at_call 54;refine hR.out.mono ?_;rintro e w3 ⟨rfl,hb3⟩)
      go_ret
      exact ⟨ad hv3.out.symm,hfin.out _ (hbb'.out.trans (hb3.mono (HL la)))⟩
     |true=>
      have hv3:=aa (hv2.out.trans (Hx _))
      obtain ⟨f,hf⟩:∃ f:Nat→Pt→Int→Option Int,f=fun i x n=>vT (DT p t i) (im t i) x n:=⟨_,rfl⟩
      rw [←hf] at hv3
      replace hf:=aa (fun i x n=>congrFun (congrFun (congrFun hf i) x) n)
      go_wp2_with (go_at_call 54;refine hR.out.mono ?_;rintro e w3 ⟨rfl,hb3⟩;have kk:=ae hb3;clear kk)
      go_loopw [6,7,8,9,10,11] (fun ln c _ _ _ _ wr=>∃ (j:Nat) (n:Int),j≤pats.length∧c=.int .i64 j∧ln=.int .i64 n∧Hid (dn f 0 (pats.take j) 0=some n)∧Hid (Below wb.heap.size wb wr)) (fun _ c _ _ _ _ _=>pats.length-(intOf c).toNat)
      case atStart=>exact ⟨0,0,Hz _,rfl,rfl,aa (by simp [dn]),aa hb3⟩
      case round=>
       clear hb3
       obtain ⟨j,n,hj1,rfl,rfl,hfd,hbr⟩:=hrel
       have kr:=ae hbr.out
       have hzr:=hbr.out.size
       have Z1:=(kr.1 _ 1 m2).trans X1
       have Z2:=(kr.1 _ 2 m2).trans X2
       have m2r:=Hr m2 hzr
       have Z0:=(kr.1 _ 0 la).trans t0
       have lar:=Hr la hzr
       by_cases hlt:j<pats.length
       focus
        have hlk:j<t.keys.length:=by rw [←hlen.out];exact hlt
        have hlkd:j<t.kinds.length:=by rw [hkl.out];exact hlk
        have hltz:(j:Int)<(pats.length:Int):=by omega
        have hltk:(j:Int)<(t.keys.length:Int):=by omega
        have hltkd:(j:Int)<(t.kinds.length:Int):=by omega
        obtain ⟨pb,po,hPA,hpb,u0,u1,u2,u3,okx⟩:=(hPt.out wr (hbb'.out.trans (hbr.out.mono (HL la)))).pt hlt
        subst hPA
        obtain ⟨gb,og,hA2,hg,hkd⟩:=(hS.out wr hbr.out).2.1.byte hlkd
        subst hA2
        obtain ⟨cb,oc,A',c',hA1,hcb,hcd,hE⟩:=(hS.out wr hbr.out).1.code hlk
        subst hA1
        have hlo:=aa (fun (g:f j pats[j] n=none)=>show dn f 0 pats 0=none from nS hlt hfd.out g)
        have hhi:=aa (fun (o:Int) (g:f j pats[j] n=some o)=>show dn f 0 (pats.take (j+1)) 0=some o from nR hlt hfd.out g)
        have hfj:=hf.out j pats[j] n
        rw [Eb hlk,tQ hlkd] at hfj
        have hE':=aa hE
        have hP':=aa (hP.out wr (hbb'.out.trans (hbr.out.mono (HL la))))
        generalize hce:t.keys[j]=ce at*
        generalize pats[j]=x at*
        generalize t.kinds[j]=kd at*
        have hX:∀ d os,Hid (Calls prog 55 #[.agg (aO A1 A2 A3 A4 (some ⟨b,o,none⟩) A6 A7 A8 A9 A10 A11 A12 p c1 c2 c3 c4 c5 c6 c7 c8 c9 c10 c11 c12),.int .i64 (-1),.slice A' ce.length c'] (HG (redrawn wr d) os) _):=fun d os=>aa (fY A1 A2 A3 A4 (some ⟨b,o,none⟩) A6 A7 A8 A9 A10 A11 A12 p c1 c2 c3 c4 c5 c6 c7 c8 c9 c10 c11 c12 (-1) ce A' c' _ ((hP'.out.below (below_regrown wr d os)).more (below_regrown wr d os).size) ((hE'.out.below bm (below_regrown wr d os)).more bm (below_regrown wr d os).size))
        have W0:=(kr.1 _ 0 m1).trans Y0
        have W1:=(kr.1 _ 1 m1).trans Y1
        have W2:=(kr.1 _ 2 m1).trans Y2
        have W3:=(kr.1 _ 3 m1).trans Y3
        have W4:=(kr.1 _ 4 m1).trans Y4
        have W5:=(kr.1 _ 5 m1).trans Y5
        have W6:=(kr.1 _ 6 m1).trans Y6
        have W7:=(kr.1 _ 7 m1).trans Y7
        have W8:=(kr.1 _ 8 m1).trans Y8
        have W9:=(kr.1 _ 9 m1).trans Y9
        have W10:=(kr.1 _ 10 m1).trans Y10
        have W11:=(kr.1 _ 11 m1).trans Y11
        have V1:=(kr.1 _ 1 la).trans t1
        have G0:=hkd
        have N0:=hcd
        have s0:=hpb
        have s1:=hg
        have s4:=Hr m1 hzr
        have hgw:=aS (show Below wr.heap.size wr wr from Hs _ _) (Ht _)
        have hbz:=aa hbr.out
        have hzz:=hzr
        unfold Cc at hX
        generalize (iJ p (-1) ce).getD 0=y at hX hfj
        generalize (iJ p (-1) ce).isSome=is at hX
        have hLn:=aa (fun W=>yg x y W okx)
        have hMy:=aa (fun W=>oJ x y W okx)
        have hMk:=aa (fun d os W=>(tg y (HG (redrawn W d) os)))
        unfold vT fU at hfj
        generalize yA y x=LN at hLn hfj
        obtain ⟨ln,ls⟩:=LN
        simp only at hLn hfj
        generalize eJ y x=m at hMy hfj
        generalize aX (eu y)=MH at hMk hfj
        generalize aP (eu y)=ML at hMk hfj
        unfold Ev at hLn hMy
        clear kr hcd hkd hE hE' hP' hce okx hfd
        generalize f j x n=F at hfj hlo hhi
        obtain ⟨vh,vl,mh,ml⟩:=x
        simp only at hLn hMy hfj u0 u1 u2 u3
        go_wp2_with fail
        refine cR ?_
        repeat (any_goals (first|go_big_quiet_step ((go_at_call 55;with_reducible exact Hv (hX _ _).out))|quiet_step ((go_at_call 55;with_reducible exact Hv (hX _ _).out))))
        refine wpQuiet_nil ?_
        intro w1 hw1
        replace hw1:=ac hw1
        clear hgw W0 W1 W2 W3 W4 W5 W6 W7 W8 W9 W10 W11 N0 hX s4 Z0
        have hb':=hw1
        have kk:=ae hb'
        replace u0:=(kk.1 _ _ s0).trans u0
        replace u1:=(kk.1 _ _ s0).trans u1
        replace u2:=(kk.1 _ _ s0).trans u2
        replace u3:=(kk.1 _ _ s0).trans u3
        replace Z1:=(kk.1 _ 1 m2r).trans Z1
        replace V1:=(kk.1 _ 1 lar).trans V1
        replace G0:=(kk.1 _ (og+j) s1).trans G0
        replace s0:=Hr s0 hb'.size
        replace s1:=Hr s1 hb'.size
        replace lar:=Hr lar hb'.size
        replace m2r:=Hr m2r hb'.size
        replace hbz:=aa (hbz.out.trans (hb'.mono hzz))
        replace hzz:=Hw hzz hb'.size
        clear kk hb' hw1
        cases m
        focus
         have hF:F=none:=by rw [hfj];simp
         replace hlo:=aa (hlo.out hF)
         have hv4:=aa (hv3.out.trans (decide_eq_false (by rw [hlo.out];simp)))
         clear hfj hF hhi hlo
         go_wp2_with (first|(go_at_call 57;refine (hLn.out _).mono ?_;rintro e w' ⟨rfl,hb'⟩;have kk:=ae hb';replace u0:=(kk.1 _ _ s0).trans u0;replace u1:=(kk.1 _ _ s0).trans u1;replace u2:=(kk.1 _ _ s0).trans u2;replace u3:=(kk.1 _ _ s0).trans u3;replace Z1:=(kk.1 _ 1 m2r).trans Z1;replace V1:=(kk.1 _ 1 lar).trans V1;replace G0:=(kk.1 _ (og+j) s1).trans G0;replace s0:=Hr s0 hb'.size;replace s1:=Hr s1 hb'.size;replace lar:=Hr lar hb'.size;replace m2r:=Hr m2r hb'.size;replace hbz:=aa (hbz.out.trans (hb'.mono hzz));replace hzz:=Hw hzz hb'.size;clear kk hb')|(go_at_call 56;refine (hMy.out _).mono ?_;rintro e w' ⟨rfl,hb'⟩;have kk:=ae hb';replace u0:=(kk.1 _ _ s0).trans u0;replace u1:=(kk.1 _ _ s0).trans u1;replace u2:=(kk.1 _ _ s0).trans u2;replace u3:=(kk.1 _ _ s0).trans u3;replace Z1:=(kk.1 _ 1 m2r).trans Z1;replace V1:=(kk.1 _ 1 lar).trans V1;replace G0:=(kk.1 _ (og+j) s1).trans G0;replace s0:=Hr s0 hb'.size;replace s1:=Hr s1 hb'.size;replace lar:=Hr lar hb'.size;replace m2r:=Hr m2r hb'.size;replace hbz:=aa (hbz.out.trans (hb'.mono hzz));replace hzz:=Hw hzz hb'.size;clear kk hb'))
         go_ret
         exact ⟨ad hv4.out.symm,hfin.out _ (hbb'.out.trans (hbz.out.mono (HL la)))⟩
        rotate_right
        focus
         simp only [Bool.true_eq_false,if_false] at hfj
         go_upto_region 14 with (first|(go_at_call 57;refine (hLn.out _).mono ?_;rintro e w' ⟨rfl,hb'⟩;have kk:=ae hb';replace u0:=(kk.1 _ _ s0).trans u0;replace u1:=(kk.1 _ _ s0).trans u1;replace u2:=(kk.1 _ _ s0).trans u2;replace u3:=(kk.1 _ _ s0).trans u3;replace Z1:=(kk.1 _ 1 m2r).trans Z1;replace V1:=(kk.1 _ 1 lar).trans V1;replace G0:=(kk.1 _ (og+j) s1).trans G0;replace s0:=Hr s0 hb'.size;replace s1:=Hr s1 hb'.size;replace lar:=Hr lar hb'.size;replace m2r:=Hr m2r hb'.size;replace hbz:=aa (hbz.out.trans (hb'.mono hzz));replace hzz:=Hw hzz hb'.size;clear kk hb')|(go_at_call 56;refine (hMy.out _).mono ?_;rintro e w' ⟨rfl,hb'⟩;have kk:=ae hb';replace u0:=(kk.1 _ _ s0).trans u0;replace u1:=(kk.1 _ _ s0).trans u1;replace u2:=(kk.1 _ _ s0).trans u2;replace u3:=(kk.1 _ _ s0).trans u3;replace Z1:=(kk.1 _ 1 m2r).trans Z1;replace V1:=(kk.1 _ 1 lar).trans V1;replace G0:=(kk.1 _ (og+j) s1).trans G0;replace s0:=Hr s0 hb'.size;replace s1:=Hr s1 hb'.size;replace lar:=Hr lar hb'.size;replace m2r:=Hr m2r hb'.size;replace hbz:=aa (hbz.out.trans (hb'.mono hzz));replace hzz:=Hw hzz hb'.size;clear kk hb'))
         obtain ⟨w2,hw2⟩:∃ w2,w2=w':=⟨_,rfl⟩
         subst hw2
         have hgw:=aS (show Below w2.heap.size w2 w2 from Hs _ _) (Ht _)
         by_cases e1:kd=1
         focus
          have c1:(kd==1)=true:=beq_iff_eq.2 e1
          have c2:(kd==2)=false:=by rw [e1];rfl
          have c3:(kd=1)=True:=eq_true e1
          have c4:(kd=2)=False:=eq_false (by omega)
          clear e1
          by_cases e2:mh=MH
          focus
           subst e2
           by_cases e3:ml=ML
           focus
            subst e3
            have hF:F=some n:=by rw [hfj];simp [c3,c4]
            replace hhi:=aa (hhi.out _ hF)
            clear hfj hF hlo
            go_wp2_with fail
            refine cR ?_
            repeat (any_goals (first|go_big_quiet_step ((go_at_call 58;with_reducible exact Hv (hMk.out _ _ _)))|quiet_step ((go_at_call 58;with_reducible exact Hv (hMk.out _ _ _)))))
            refine wpQuiet_nil ?_
            intro w5 hw5
            replace hw5:=ac hw5
            clear hgw
            have hb':=hw5
            have kk:=ae hb'
            replace u0:=(kk.1 _ _ s0).trans u0
            replace u1:=(kk.1 _ _ s0).trans u1
            replace u2:=(kk.1 _ _ s0).trans u2
            replace u3:=(kk.1 _ _ s0).trans u3
            replace Z1:=(kk.1 _ 1 m2r).trans Z1
            replace V1:=(kk.1 _ 1 lar).trans V1
            replace G0:=(kk.1 _ (og+j) s1).trans G0
            replace s0:=Hr s0 hb'.size
            replace s1:=Hr s1 hb'.size
            replace lar:=Hr lar hb'.size
            replace m2r:=Hr m2r hb'.size
            replace hbz:=aa (hbz.out.trans (hb'.mono hzz))
            replace hzz:=Hw hzz hb'.size
            clear kk hb' hw5
            go_wp2
            go_roundw
            case rel=>exact ⟨j+1,n,by omega,by go_num,rfl,hhi,hbz⟩
            case measure=>simp [intOf];omega
           rotate_right
           have b1:(ml==ML)=false:=beq_eq_false_iff_ne.2 e3
           have b2:(ml=ML)=False:=eq_false e3
           have hF:F=none:=by rw [hfj];simp [c3,e3]
           replace hlo:=aa (hlo.out hF)
           have hv4:=aa (hv3.out.trans (decide_eq_false (by rw [hlo.out];simp)))
           clear hfj hF hhi hlo
           clear e3
          rotate_right
          have b1:(mh==MH)=false:=beq_eq_false_iff_ne.2 e2
          have b2:(mh=MH)=False:=eq_false e2
          have hF:F=none:=by rw [hfj];simp [c3,e2]
          replace hlo:=aa (hlo.out hF)
          have hv4:=aa (hv3.out.trans (decide_eq_false (by rw [hlo.out];simp)))
          clear hfj hF hhi hlo
          clear e2
         rotate_right
         focus
          have c1:(kd==1)=false:=beq_eq_false_iff_ne.2 e1
          have c3:(kd=1)=False:=eq_false e1
          by_cases e2:kd=2
          ·have c2:(kd==2)=true:=beq_iff_eq.2 e2
           have c4:(kd=2)=True:=eq_true e2
           clear e1 e2
           cases ls with
           |false=>
            have hF:F=none:=by rw [hfj];simp [c3,c4]
            replace hlo:=aa (hlo.out hF)
            have hv4:=aa (hv3.out.trans (decide_eq_false (by rw [hlo.out];simp)))
            clear hfj hF hhi hlo
            go_wp2_with fail
            refine cR ?_
            repeat (any_goals (first|go_big_quiet_step (fail)|quiet_step (fail)))
            refine wpQuiet_nil ?_
            intro w5 hw5
            replace hw5:=ac hw5
            clear hgw
            have hb':=hw5
            have kk:=ae hb'
            replace u0:=(kk.1 _ _ s0).trans u0
            replace u1:=(kk.1 _ _ s0).trans u1
            replace u2:=(kk.1 _ _ s0).trans u2
            replace u3:=(kk.1 _ _ s0).trans u3
            replace Z1:=(kk.1 _ 1 m2r).trans Z1
            replace V1:=(kk.1 _ 1 lar).trans V1
            replace G0:=(kk.1 _ (og+j) s1).trans G0
            replace s0:=Hr s0 hb'.size
            replace s1:=Hr s1 hb'.size
            replace lar:=Hr lar hb'.size
            replace m2r:=Hr m2r hb'.size
            replace hbz:=aa (hbz.out.trans (hb'.mono hzz))
            replace hzz:=Hw hzz hb'.size
            clear kk hb' hw5
            go_wp2
            go_ret
            exact ⟨ad hv4.out.symm,hfin.out _ (hbb'.out.trans (hbz.out.mono (HL la)))⟩
           |true=>
            have hF:F=some ln:=by rw [hfj];simp [c3,c4]
            replace hhi:=aa (hhi.out _ hF)
            clear hfj hF hlo
            go_wp2_with fail
            refine cR ?_
            repeat (any_goals (first|go_big_quiet_step (fail)|quiet_step (fail)))
            refine wpQuiet_nil ?_
            intro w5 hw5
            replace hw5:=ac hw5
            clear hgw
            have hb':=hw5
            have kk:=ae hb'
            replace u0:=(kk.1 _ _ s0).trans u0
            replace u1:=(kk.1 _ _ s0).trans u1
            replace u2:=(kk.1 _ _ s0).trans u2
            replace u3:=(kk.1 _ _ s0).trans u3
            replace Z1:=(kk.1 _ 1 m2r).trans Z1
            replace V1:=(kk.1 _ 1 lar).trans V1
            replace G0:=(kk.1 _ (og+j) s1).trans G0
            replace s0:=Hr s0 hb'.size
            replace s1:=Hr s1 hb'.size
            replace lar:=Hr lar hb'.size
            replace m2r:=Hr m2r hb'.size
            replace hbz:=aa (hbz.out.trans (hb'.mono hzz))
            replace hzz:=Hw hzz hb'.size
            clear kk hb' hw5
            go_wp2
            go_roundw
            case rel=>exact ⟨j+1,ln,by omega,by go_num,rfl,hhi,hbz⟩
            case measure=>simp [intOf];omega
          ·have c2:(kd==2)=false:=beq_eq_false_iff_ne.2 e2
           have c4:(kd=2)=False:=eq_false e2
           clear e1 e2
           have hF:F=some n:=by rw [hfj];simp [c3,c4]
           replace hhi:=aa (hhi.out _ hF)
           clear hfj hF hlo
           go_wp2_with fail
           refine cR ?_
           repeat (any_goals (first|go_big_quiet_step (fail)|quiet_step (fail)))
           refine wpQuiet_nil ?_
           intro w5 hw5
           replace hw5:=ac hw5
           clear hgw
           have hb':=hw5
           have kk:=ae hb'
           replace u0:=(kk.1 _ _ s0).trans u0
           replace u1:=(kk.1 _ _ s0).trans u1
           replace u2:=(kk.1 _ _ s0).trans u2
           replace u3:=(kk.1 _ _ s0).trans u3
           replace Z1:=(kk.1 _ 1 m2r).trans Z1
           replace V1:=(kk.1 _ 1 lar).trans V1
           replace G0:=(kk.1 _ (og+j) s1).trans G0
           replace s0:=Hr s0 hb'.size
           replace s1:=Hr s1 hb'.size
           replace lar:=Hr lar hb'.size
           replace m2r:=Hr m2r hb'.size
           replace hbz:=aa (hbz.out.trans (hb'.mono hzz))
           replace hzz:=Hw hzz hb'.size
           clear kk hb' hw5
           go_wp2
           go_roundw
           case rel=>exact ⟨j+1,n,by omega,by go_num,rfl,hhi,hbz⟩
           case measure=>simp [intOf];omega
       rotate_right
       focus
        have hje:j=pats.length:=by omega
        subst hje
        have hnk:¬(pats.length:Int)<(t.keys.length:Int):=by have:=hlen.out;omega
        rw [H7] at hfd
        rw [hfd.out] at hv3
        by_cases he:n=len
        have hv4:=aa (hv3.out.trans (decide_eq_true (by rw [he])))
        have q:(n==len)=true:=by rw [beq_iff_eq];exact he
        rotate_right
        have hv4:=aa (hv3.out.trans (decide_eq_false (by intro g;injection g with g;exact he g)))
        have q:(n==len)=false:=by rw [beq_eq_false_iff_ne];exact he
        all_goals
         clear hv3 he
         go_wp2
         go_ret
         exact ⟨ad hv4.out.symm,hfin.out _ (hbb'.out.trans (hbr.out.mono (HL la)))⟩
       all_goals
        go_wp2_with fail
        refine cR ?_
        repeat (any_goals (first|go_big_quiet_step ((go_at_call 58;with_reducible exact Hv (hMk.out _ _ _)))|quiet_step ((go_at_call 58;with_reducible exact Hv (hMk.out _ _ _)))))
        refine wpQuiet_nil ?_
        intro w5 hw5
        replace hw5:=ac hw5
        clear hgw
        have hb':=hw5
        have kk:=ae hb'
        replace u0:=(kk.1 _ _ s0).trans u0
        replace u1:=(kk.1 _ _ s0).trans u1
        replace u2:=(kk.1 _ _ s0).trans u2
        replace u3:=(kk.1 _ _ s0).trans u3
        replace Z1:=(kk.1 _ 1 m2r).trans Z1
        replace V1:=(kk.1 _ 1 lar).trans V1
        replace G0:=(kk.1 _ (og+j) s1).trans G0
        replace s0:=Hr s0 hb'.size
        replace s1:=Hr s1 hb'.size
        replace lar:=Hr lar hb'.size
        replace m2r:=Hr m2r hb'.size
        replace hbz:=aa (hbz.out.trans (hb'.mono hzz))
        replace hzz:=Hw hzz hb'.size
        clear kk hb' hw5
        go_wp2
        go_ret
        exact ⟨ad hv4.out.symm,hfin.out _ (hbb'.out.trans (hbz.out.mono (HL la)))⟩
    ·have g5:((pats.length:Int) !=(t.keys.length:Int))=true:=by rw [bne_iff_ne];omega
     have hv2:=aa (hv1.out.trans (by rw [decide_eq_false hlen,Hu]))
     clear hlen
     go_wp2
     go_ret
     exact ⟨ad hv2.out.symm,hfin.out _ hbb'.out⟩
   ·have g4:decide ((65536:Int)<prio)=true:=decide_eq_true (by omega)
    have hv1:=aa (hv.out.trans (by rw [oz hp1,Hu]))
    go_wp2
    go_ret
    exact ⟨ad hv1.out.symm,hfin.out _ (Hs _ _)⟩
  ·have g3:decide (prio<0)=true:=decide_eq_true (by omega)
   have hv1:=aa (hv.out.trans (by rw [oy hp0,Hu]))
   go_wp2
   go_ret
   exact ⟨ad hv1.out.symm,hfin.out _ (Hs _ _)⟩
 rotate_right
 focus
  have hv:=aa (AH (e:=⟨tab,pats,len,prio,⟨act,args⟩⟩) e1).2
  have e4:¬(0≤tab∧tab<(p.tabs.length:Int)):=by
   rintro ⟨a,b⟩
   obtain ⟨k,rfl⟩:=HH a
   rw [il k (by omega)] at e1
   cases e1
  by_cases h0:tab<0
  have g1:decide (tab<0)=true:=decide_eq_true h0
  rotate_right
  have g1:decide (tab<0)=false:=decide_eq_false h0
  have g2:decide ((p.tabs.length:Int)≤tab)=true:=decide_eq_true (by omega)
 all_goals
  clear e4 e1 e2 e3
  go_wp2
  go_ret
  exact ⟨ad hv.out.symm,hfin.out _ (Hs _ _)⟩
theorem sf {p:Lp} (hp:DM p) (h:g8 p=true):∀ t∈p.tabs,t.kinds.length=t.keys.length:=fun t ht=>(jC ((fX (by rw [zn p hp];exact h)).2.2 t ht)).2.2.1
theorem um (A1 A2 A3 A4 A5 A6 A7 A8 A9 A10 A11 A12:Option Addr) (p:Lp) (c1 c2 c3 c4 c5 c6 c7 c8 c9 c10 c11 c12:Nat) (A:Option Addr) (cap:Nat) (l:List aA) (w:World) (h:cz w w.heap.size A1 A2 A3 A4 A5 A6 A7 A8 A9 A10 A11 A12 p) (hE:p.emit.length≤c7) (hok:DM p) (hl:Sl 6 eM w w.heap.size A l):
  Calls prog 13 #[.agg (aO A1 A2 A3 A4 A5 A6 A7 A8 A9 A10 A11 A12 p c1 c2 c3 c4 c5 c6 c7 c8 c9 c10 c11 c12),.slice A l.length cap] w fun e w'=>e=.returned (.bool (jN p l))∧Below w.heap.size w w':=by
 unfold aO
 have hll:=hl.len
 obtain ⟨wz,hwz,hsz,hbz,hcz,-⟩:=af w (aO A1 A2 A3 A4 A5 A6 A7 A8 A9 A10 A11 A12 p c1 c2 c3 c4 c5 c6 c7 c8 c9 c10 c11 c12) 33
 have lx:w.heap.size<wz.heap.size:=by omega
 have hP:=aa (fun (W:World) (hW:Below wz.heap.size wz W)=>((h.below hbz).below (hW.mono hbz.size)).more (Hw hbz.size hW.size))
 have hM:=aa (BF A1 A2 A3 A4 A5 A6 A7 A8 A9 A10 A11 A12 p c1 c2 c3 c4 c5 c6 c7 c8 c9 c10 c11 c12 wz (hP.out wz (Hs _ _)) hE)
 have hL:=aa (fun (W:World) (hW:Below wz.heap.size wz W)=>((hl.below bG hbz).below bG (hW.mono hbz.size)).more bG (Hw hbz.size hW.size))
 have hv:=aa (show jN p l=(g8 p&&(decide (l.length≤64)&&l.all (cg p))) from rfl)
 have hgo:=aa (fun (W:World) (hW:Below wz.heap.size wz W)=>hbz.trans (hW.mono hbz.size))
 have Y:=aa hcz
 obtain ⟨y0,y1,y2,y3,y4,y5,y6,y7,y8,y9,y10,y11⟩:=aF hcz
 replace hsz:=aa hsz
 clear hcz hbz h hl
 cases hm:g8 p
 rw [hm] at hM hv
 replace hv:=aa (hv.out.trans (Hu _))
 clear hm
 rotate_right
 focus
  have hkk:=aa (sf hok hm)
  rw [hm] at hM hv
  replace hv:=aa (hv.out.trans (Hx _))
  clear hm
  by_cases h64:l.length≤64
  focus
   have d1:decide ((64:Int)<(l.length:Int))=false:=decide_eq_false (by omega)
   have d2:decide (l.length≤64)=true:=decide_eq_true h64
   have d3:decide (64<l.length)=false:=decide_eq_false (by omega)
   replace hv:=aa (hv.out.trans (by rw [d2,Hx]))
   go_enter func13,ntmps13
   go_wp2_with (go_at_call 24;refine hM.out.mono ?_;rintro e w1 ⟨rfl,hb1⟩)
   go_loopw [5] (fun i wr=>∃ j:Nat,j≤l.length∧i=.int .i64 j∧Hid (∀ q (hq:q<l.length),q<j→cg p l[q]=true)∧Hid (Below wz.heap.size wz wr)) (fun i _=>l.length-(intOf i).toNat)
   case atStart=>exact ⟨0,Hz _,rfl,aa (fun q hq h=>absurd h (Nat.not_lt_zero _)),aa hb1⟩
   case round=>
    clear hb1
    obtain ⟨j,hj,rfl,hc,hB⟩:=hrel
    have hzr:=hB.out.size
    by_cases hlt:j<l.length
    ·have hkz:(j:Int)<(l.length:Int):=by omega
     obtain ⟨b,o,P1,P2,c1',c2',hA,hb1,a0,a1,a2,a3,a4,a5,s1,s2⟩:=(hL.out wr hB.out).ent hlt
     subst hA
     have hlx:=Hr lx hzr
     obtain ⟨t0,t1,t2,t3,t4,t5,t6,t7,t8,t9,t10,t11⟩:=aF fun i=>(hB.out.cell (p:=⟨w.heap.size,i,none⟩) lx).trans (Y.out i)
     have hX:∀ d os,Hid (Calls prog 25 #[.agg (aO A1 A2 A3 A4 A5 A6 A7 A8 A9 A10 A11 A12 p c1 c2 c3 c4 c5 c6 c7 c8 c9 c10 c11 c12),CI P1 c1' P2 c2' l[j]] (HG (redrawn wr d) os) _):=fun d os=>aa (yh A1 A2 A3 A4 A5 A6 A7 A8 A9 A10 A11 A12 p c1 c2 c3 c4 c5 c6 c7 c8 c9 c10 c11 c12 l[j] P1 P2 c1' c2' _ (hP.out _ (hB.out.trans ((below_regrown wr d os).mono hzr))) hkk.out ((s1.below ay (below_regrown wr d os)).more ay (below_regrown wr d os).size) ((s2.below aq (below_regrown wr d os)).more aq (below_regrown wr d os).size))
     have hhi:=aa (fun (g:cg p l[j]=true)=>show ∀ q (hq:q<l.length),q<j+1→cg p l[q]=true from fun q hq h=>by
      by_cases h1:q=j
      ·subst h1;exact g
      ·exact hc.out q hq (by omega))
     have hlo:=aa (fun (g:cg p l[j]=false)=>show l.all (cg p)=false from by
      cases hq:l.all (cg p) with
      |false=>rfl
      |true=>rw [HT.1 hq _ (HE hlt)] at g;cases g)
     have hgw:=aS (show Below wr.heap.size wr wr from Hs _ _) (Ht _)
     generalize cg p l[j]=F at hX hhi hlo
     generalize l[j]=e at hX a0 a1 a2 a3 a4 a5 s1 s2
     clear s1 s2 y0 y1 y2 y3 y4 y5 y6 y7 y8 y9 y10 y11
     cases F with
     |true=>
      replace hhi:=aa (hhi.out (by trivial))
      go_wp2_with fail
      refine cR ?_
      repeat (any_goals (first|go_big_quiet_step ((go_at_call 25;with_reducible exact Hv (hX _ _).out))|quiet_step ((go_at_call 25;with_reducible exact Hv (hX _ _).out))))
      refine wpQuiet_nil ?_
      intro w2 hw2
      replace hw2:=ac hw2
      go_wp2
      go_roundw
      case rel=>exact ⟨j+1,by omega,by go_num,hhi,aa (hB.out.trans (hw2.mono hzr))⟩
      case measure=>simp [intOf];omega
     |false=>
      replace hlo:=aa (hlo.out (by trivial))
      go_wp2_with fail
      refine cR ?_
      repeat (any_goals (first|go_big_quiet_step ((go_at_call 25;with_reducible exact Hv (hX _ _).out))|quiet_step ((go_at_call 25;with_reducible exact Hv (hX _ _).out))))
      refine wpQuiet_nil ?_
      intro w2 hw2
      replace hw2:=ac hw2
      go_wp2
      go_ret
      exact ⟨ad (by rw [hv.out,hlo.out]),hgo.out _ (hB.out.trans (hw2.mono hzr))⟩
    ·have hje:j=l.length:=by omega
     subst hje
     have hv2:=aa (hv.out.trans (show l.all (cg p)=true from by
      rw [HT]
      intro x hx
      obtain ⟨i,hi,rfl⟩:=List.mem_iff_getElem.1 hx
      exact hc.out i hi hi))
     go_wp2
     go_ret
     exact ⟨ad hv2.out.symm,hgo.out _ hB.out⟩
  rotate_right
  have d1:decide ((64:Int)<(l.length:Int))=true:=decide_eq_true (by omega)
  have d2:decide (l.length≤64)=false:=decide_eq_false h64
  have d3:decide (64<l.length)=true:=decide_eq_true (by omega)
  replace hv:=aa (hv.out.trans (by rw [d2,Hu]))
 all_goals
  go_enter func13,ntmps13
  go_wp2_with (go_at_call 24;refine hM.out.mono ?_;rintro e w1 ⟨rfl,hb1⟩)
  go_ret
  exact ⟨ad hv.out.symm,hgo.out _ hb1⟩
section
open Go.RowKit Go.Lib
theorem bC.rows2 {w:World} {base B og:Nat} {vs:List Value} {out:List (List aA)} (h:bC w base B og vs out) (hm:out.length≤maxLen):dB w w.heap.size w.heap.size (some ⟨og,0,none⟩) out:=(h.sl hm).rowsX (Ht _)
theorem vk {k:Int} (h:1≤k∧k≤3):u8 k:=⟨by omega,by omega⟩
theorem mJ (A1 A2 A3 A4 A5 A6 A7 A8 A9 A10 A11 A12:Option Addr) (p:Lp) (c1 c2 c3 c4 c5 c6 c7 c8 c9 c10 c11 c12:Nat) (AE:Option Addr) (cE:Nat) (l:List (List aA)) (AC:Option Addr) (cC:Nat) (cs:List bn) (mm:Int) (w:World) (h:cz w w.heap.size A1 A2 A3 A4 A5 A6 A7 A8 A9 A10 A11 A12 p) (hE:p.emit.length≤c7) (hok:DM p) (hle:Sl 1 em w w.heap.size AE l) (hcs:Sl 9 nz w w.heap.size AC cs) (hku:∀ c∈cs,u8 c.kind)
  (hV:gV w) (hml:0<w.heap.size) (hm:w.cell? ⟨0,0,none⟩=some (.int .i64 mm)):
  Calls prog 4 #[.agg (aO A1 A2 A3 A4 A5 A6 A7 A8 A9 A10 A11 A12 p c1 c2 c3 c4 c5 c6 c7 c8 c9 c10 c11 c12),.slice AE l.length cE,.slice AC cs.length cC] w fun e w'=>e=.returned (.bool true)∧Below w.heap.size w w':=by
 unfold aO
 have le:=hle.len
 have lc:=hcs.len
 have hEk:∀ x∈l,F6 x:=fun x hx e he=>by
  obtain ⟨i,hi,rfl⟩:=H0 hx
  obtain ⟨_,_,_,_,_,_,_,hEl⟩:=hle.ents hi
  obtain ⟨j,hj,rfl⟩:=H0 he
  obtain ⟨_,_,_,_,_,_,_,_,_,_,_,_,_,_,hs1,hs2⟩:=hEl.ent hj
  exact ⟨hs1.okPts,hs2.okNus⟩
 obtain ⟨wa,hwa,hsa,hba,hca,-⟩:=af w (aO A1 A2 A3 A4 A5 A6 A7 A8 A9 A10 A11 A12 p c1 c2 c3 c4 c5 c6 c7 c8 c9 c10 c11 c12) 33
 have lwa:w.heap.size<wa.heap.size:=by omega
 have hP:=aa (fun (W:World) (hW:Below wa.heap.size wa W)=>((h.below hba).below (hW.mono hba.size)).more (Hw hba.size hW.size))
 have hL:=aa (fun (W:World) (hW:Below wa.heap.size wa W)=>((hle.below bX hba).below bX (hW.mono hba.size)).more bX (Hw hba.size hW.size))
 have hL0:=aa (fun (W:World) (hW:Below wa.heap.size wa W)=>(hle.below bX hba).below bX (hW.mono hba.size))
 have hS0:=aa (fun (W:World) (hW:Below wa.heap.size wa W)=>(hcs.below kL hba).below kL (hW.mono hba.size))
 have hY:=aa (fun (W:World) (hW:Below wa.heap.size wa W)=>(And.intro (aF fun i=>(bj hW w.heap.size i (by omega)).trans (hca i)) (Hr lwa hW.size)))
 have hfin:=aa (fun (W:World) (hW:Below wa.heap.size wa W)=>hba.trans (hW.mono hba.size))
 have hKn:=aa (fun (W:World) (hW:Below wa.heap.size wa W)=>(rZ W mm (hV.below (hba.trans (hW.mono hba.size)) (Ht _)) (((hba.trans (hW.mono hba.size)).cell (p:=⟨0,0,none⟩) hml).trans hm) (Hr hml (Hw hba.size hW.size))).mono fun e w' g=>(⟨g.1,hW.trans (g.2.mono hW.size)⟩:e=.returned (.bool true)∧Below wa.heap.size wa w'))
 have hG1:=aa (CX A1 A2 A3 A4 A5 A6 A7 A8 A9 A10 A11 A12 p c1 c2 c3 c4 c5 c6 c7 c8 c9 c10 c11 c12 AE cE l AC cC cs wa (hP.out wa (Hs _ _)) (hL.out wa (Hs _ _)) ((hS0.out wa (Hs _ _)).more kL hba.size))
 have hlw:=hba.size
 replace hsa:=aa hsa
 replace hok:=aa hok
 replace hEk:=aa hEk
 replace hku:=aa hku
 obtain ⟨⟨y0,y1,y2,y3,y4,y5,y6,y7,y8,y9,y10,y11⟩,ly⟩:=hY.out wa (Hs _ _)
 clear h hle hcs hba hca hV hml hm
 go_enter func4,ntmps4
 go_upto_region 1 with fail
 go_cut [23] (fun v wx=>(∃ b,v=.bool b∧(b=false→ei l=false∧cs.length≤20))∧Hid (Below wa.heap.size wa wx))
 case first=>
  go_wp2_with (go_at_call 5;refine hG1.out.mono ?_;rintro e w3 ⟨⟨b,rfl,hb12⟩,hb3⟩)
  go_meet
  exact ⟨⟨b,rfl,hb12⟩,aa hb3⟩
 case rest=>
  obtain ⟨⟨b,rfl,hb12⟩,hb3⟩:=hcut
  obtain ⟨w3,rfl⟩:∃ w3:World,w3=wc:=⟨_,rfl⟩
  clear hG1 y0 y1 y2 y3 y4 y5 y6 y7 y8 y9 y10 y11 ly
  cases b with
  |true=>
   go_wp2_with (go_at_call 6;refine (hKn.out _ hb3.out).mono ?_;rintro e w5 ⟨rfl,hb5⟩)
   go_ret
   exact ⟨rfl,hfin.out _ hb5⟩
  |false=>
   obtain ⟨hgE,hc20⟩:=hb12 (by first|rfl|trivial)
   clear hb12
   have hgg:(∀ x∈l,x.length≤80)∧l.length≤12:=by
    unfold ei at hgE
    rw [Bool.or_eq_false_iff,decide_eq_false_iff_not] at hgE
    refine ⟨fun x hx=> ?_,by omega⟩
    have:=List.any_eq_false.1 hgE.1 x hx
    unfold CW at this
    simp only [HS,decide_eq_true_eq,not_or] at this
    omega
   obtain ⟨h80,h12⟩:=hgg
   have hAl:=BC A1 A2 A3 A4 A5 A6 A7 A8 A9 A10 A11 A12 p c1 c2 c3 c4 c5 c6 c7 c8 c9 c10 c11 c12 AE AC cE cC w.heap.size 80 l cs w3 (Hw hlw hb3.out.size) (hP.out w3 hb3.out) ((hL0.out w3 hb3.out).rowsX (Hw hlw hb3.out.size)) (by omega) (by omega) (by omega) h80 (hS0.out w3 hb3.out) (by omega) hku.out
   obtain ⟨⟨y0,y1,y2,y3,y4,y5,y6,y7,y8,y9,y10,y11⟩,ly⟩:=hY.out w3 hb3.out
   replace h80:=aa h80
   clear hgE
   cases hc:cQ p l [] 0 cs with
   |error x=>
    rw [hc] at hAl
    obtain ⟨x1,x2⟩:=x
    obtain ⟨hx1,hx2⟩:=qu cs l [] 0 x1 x2 hc
    unfold jH at hAl
    simp only at hAl
    replace hAl:=aa hAl
    have d1:(x2 !=0)=true:=by simpa using hx2
    have d2:decide ((x1:Int)<(cs.length:Int))=true:=decide_eq_true (by omega)
    have d2':decide (x1<cs.length)=true:=decide_eq_true (by omega)
    clear hc hx2
    go_wp2_with (first|(go_at_call 7;refine hAl.out.mono ?_;rintro e w4 ⟨rfl,hb4⟩;have hb4':=hb3.out.trans (hb4.mono hb3.out.size))|(go_at_call 6;refine (hKn.out _ hb4').mono ?_;rintro e w5 ⟨rfl,hb5⟩))
    go_ret
    exact ⟨rfl,hfin.out _ hb5⟩
   |ok r=>
    rw [hc] at hAl
    obtain ⟨X,bk⟩:=r
    obtain ⟨rl,rm,rk,rn⟩:=jw (M:=80) (by omega) cs l [] 0 (X,bk) h80.out (fun c hc=>by cases hc) hc
    simp only [List.length_nil,H3] at rl rm rk rn
    unfold jH at hAl
    simp only at hAl
    replace hAl:=aa hAl
    replace hc:=aa hc
    replace rl:=aa rl
    replace rm:=aa rm
    replace rk:=aa rk
    replace rn:=aa rn
    go_upto_region 6 with (go_at_call 7;refine hAl.out.mono ?_;rintro e w4 ⟨b4,og,vs,v,he4,hbb4,hO4,hC4,hb4⟩;obtain ⟨AB,cB,rfl⟩:=hC4.form;subst he4)
    have hA4:=aa (hb3.out.trans (hb4.mono hb3.out.size))
    replace hO4:=aa hO4
    replace hC4:=aa hC4
    replace hbb4:=aa hbb4
    clear hAl hb4 hb3 y0 y1 y2 y3 y4 y5 y6 y7 y8 y9 y10 y11 ly
    rw [rn.out]
    go_wp2
    go_loopw [11,55] (fun _ v55 wr=>∃ (i:Nat),v55=.int .i64 (i:Int)∧i≤l.length∧Hid (Below w4.heap.size w4 wr)∧Hid (∀ k (hk:k<l.length),k<i→l[k]= []∨jN p l[k]=true)) (fun _ v55 _=>l.length-(RowKit.intOf v55).toNat)
    case atStart=>exact ⟨0,rfl,Hz _,aa (Hs _ _),aa (fun k _ h=>absurd h (Nat.not_lt_zero _))⟩
    case round=>
     obtain ⟨i,rfl,hi,hT,hinv⟩:=hrel
     have hAr:=aa (hA4.out.trans (hT.out.mono hA4.out.size))
     have hTz:=hT.out.size
     obtain ⟨⟨y0,y1,y2,y3,y4,y5,y6,y7,y8,y9,y10,y11⟩,ly⟩:=hY.out wr hAr.out
     by_cases hil:i<l.length
     ·have hiz:(i:Int)<(l.length:Int):=by omega
      have dk:decide ((i:Int)<(l.length:Int))=true:=decide_eq_true hiz
      obtain ⟨eb,eo,EA,ec,hA2,heb,hec,hEl⟩:=(hL0.out wr hAr.out).ents hil
      subst hA2
      have hlr:w.heap.size≤wr.heap.size:=Hw hlw hAr.out.size
      have hebr:=Hr heb hlr
      have hgw:=aS (show Below wr.heap.size wr wr from Hs _ _) (Ht _)
      have hM2:=aa (fun (W:World) (hW:Below wr.heap.size wr W)=>um A1 A2 A3 A4 A5 A6 A7 A8 A9 A10 A11 A12 p c1 c2 c3 c4 c5 c6 c7 c8 c9 c10 c11 c12 EA ec l[i] W (hP.out W (hAr.out.trans (hW.mono hAr.out.size))) hE hok.out ((hEl.keep bG fun q hq=>hW.cell (Hr hq hlr)).more bG (Hw hlr hW.size)))
      have hnx:l[i]= []∨jN p l[i]=true→∀ k (hk:k<l.length),k<i+1→l[k]= []∨jN p l[k]=true:=fun hh k hk hki=>by
       by_cases hk2:k=i
       ·subst hk2;exact hh
       ·exact hinv.out k hk (by omega)
      have hTn:=aa (fun (W:World) (hW:Below wr.heap.size wr W)=>hT.out.trans (hW.mono hTz))
      by_cases hz0:l[i].length=0
      ·have hnx2:=aa (hnx (.inl (List.length_eq_zero_iff.1 hz0)))
       clear hM2 hEl hnx
       rw [hz0] at hec
       go_wp2_with fail
       go_quiet (fail)
       go_wp2
       go_roundw
       ·exact ⟨i+1,by go_num,hil,aa (hTn.out _ (au (Hs _ _) _)),hnx2⟩
       ·simp [RowKit.intOf];omega
      ·have hp1:(0:Int)<(l[i].length:Int):=by omega
       have dp:decide ((0:Int)<(l[i].length:Int))=true:=decide_eq_true hp1
       have hp2:0<l[i].length:=by omega
       have dp2:decide (0<l[i].length)=true:=decide_eq_true hp2
       cases hM:jN p l[i] with
       |true=>
        rw [hM] at hM2
        have hnx2:=aa (hnx (.inr hM))
        clear hEl hnx hM hz0
        generalize l[i].length=ni at*
        go_wp2_with fail
        refine cR ?_
        repeat (any_goals (first|go_big_quiet_step ((go_at_call 13;with_reducible exact Hv (hM2.out _ (below_regrown wr _ _))))|quiet_step ((go_at_call 13;with_reducible exact Hv (hM2.out _ (below_regrown wr _ _))))))
        refine wpQuiet_nil ?_
        intro w7 hw7
        replace hw7:=ac hw7
        go_wp2
        go_roundw
        ·exact ⟨i+1,by go_num,hil,aa (hTn.out _ hw7),hnx2⟩
        ·simp [RowKit.intOf];omega
       |false=>
        rw [hM] at hM2
        clear hEl hnx hM hz0
        generalize l[i].length=ni at*
        go_wp2_with fail
        refine cR ?_
        repeat (any_goals (first|go_big_quiet_step ((go_at_call 13;with_reducible exact Hv (hM2.out _ (below_regrown wr _ _))))|quiet_step ((go_at_call 13;with_reducible exact Hv (hM2.out _ (below_regrown wr _ _))))))
        refine wpQuiet_nil ?_
        intro w7 hw7
        replace hw7:=ac hw7
        have hA7:=hAr.out.trans (hw7.mono hAr.out.size)
        go_wp2_with (go_at_call 6;refine (hKn.out _ hA7).mono ?_;rintro e w5 ⟨rfl,hb5⟩)
        go_ret
        exact ⟨rfl,hfin.out _ hb5⟩
     ·obtain rfl:i=l.length:=by omega
      have dk:decide ((l.length:Int)<(l.length:Int))=false:=decide_eq_false (by omega)
      have hRow:lJ p l:=fun x hx=>by
       obtain ⟨k,hk,rfl⟩:=H0 hx
       rcases hinv.out k hk hk with h|h
       ·exact .inl h
       ·refine .inr ?_
        rw [Ct hok.out fun e he=>(hEk.out _ (HE hk) e he).1]
        exact h
      obtain ⟨-,F,hF1,hF2⟩:=vV hRow hc.out
      obtain ⟨fl,fm,fk,fn⟩:=jw (M:=80) (by omega) bk X [] 0 (l,F) rm.out (fun c hc=>by cases hc) hF1
      simp only [List.length_nil,H3] at fl fm fk fn
      rw [rn.out] at fn
      replace fn:=aa fn
      clear fl fm
      have hOr:=hO4.out.below hT.out
      have hXm:X.length≤maxLen:=by rw [rl.out];unfold maxLen;omega
      have hlm:l.length≤maxLen:=by unfold maxLen;omega
      obtain ⟨AB',cB',hvB,hSB⟩:=(hC4.out.below hT.out (Hw (Hw hlw (hAr.out.size)) (Ht _)|>fun h=>Hw hlw hA4.out.size)).sl (Hw hlw hAr.out.size)
      injection hvB with v1 v2 v3
      subst v1 v3
      have hAl2:=BC A1 A2 A3 A4 A5 A6 A7 A8 A9 A10 A11 A12 p c1 c2 c3 c4 c5 c6 c7 c8 c9 c10 c11 c12 (some ⟨og,0,none⟩) AB l.length cB wr.heap.size 80 X bk wr (Ht _) (hP.out wr hAr.out) (hOr.rows2 hXm) (by rw [rl.out];omega) (by omega) (by omega) rm.out hSB (by rw [rn.out];omega) (fun c hc=>vk (rk.out c hc))
      rw [hF1,rl.out,rn.out] at hAl2
      unfold jH at hAl2
      simp only at hAl2
      replace hAl2:=aa hAl2
      have hA9:=aa (fun (W:World) (hW:Below wr.heap.size wr W)=>hAr.out.trans (hW.mono hAr.out.size))
      clear hinv hRow hSB hc hF1 dk
      have d0:((cs.length:Int) !=(cs.length:Int))=false:=bne_self_eq_false _
      have hSA:=aa (fun (W:World) (g:Nat) (vs:List Value) (b B:Nat) (hW:Below wr.heap.size wr W) (hO:bC W b B g vs l)=>jj l l (some ⟨g,0,none⟩) AE l.length cE W (hO.sl hlm) (hL.out W (hA9.out W hW)) rfl)
      go_upto_region 13 with (go_at_call 7;refine hAl2.out.mono ?_;rintro e w6 ⟨b6,og6,vs6,v6,he6,hbb6,hO6,hC6,hb6⟩;obtain ⟨AF,cF,rfl⟩:=hC6.form;subst he6)
      rw [fn.out]
      have hz6:=hb6.size
      have hS6:=hSA.out w6 og6 vs6 b6 _ hb6 hO6
      replace hO6:=aa hO6
      replace hC6:=aa hC6
      replace hbb6:=aa hbb6
      clear y0 y1 y2 y3 y4 y5 y6 y7 y8 y9 y10 y11 ly hAl2
      go_upto_region 15 with (go_at_call 9;refine hS6.mono ?_;rintro e w7 ⟨rfl,hb7⟩)
      have hb67:=hb6.trans (hb7.mono hz6)
      obtain ⟨⟨y0,y1,y2,y3,y4,y5,y6,y7,y8,y9,y10,y11⟩,ly⟩:=hY.out w7 (hA9.out _ hb67)
      have hO7:=hO6.out.below hb7
      obtain ⟨AF2,cF2,hv7,hS7⟩:=(hC6.out.below hb7 hz6).sl (Hw hz6 hb7.size)
      injection hv7 with v1 v2 v3
      subst v1 v3
      have hAl3:=BC A1 A2 A3 A4 A5 A6 A7 A8 A9 A10 A11 A12 p c1 c2 c3 c4 c5 c6 c7 c8 c9 c10 c11 c12 (some ⟨og6,0,none⟩) AF l.length cF w7.heap.size 80 l F w7 (Ht _) (hP.out w7 (hA9.out _ hb67)) (hO7.rows2 hlm) (by omega) (by omega) (by omega) h80.out hS7 (by rw [fn.out];omega) (fun c hc=>vk (fk c hc))
      rw [hF2,fn.out] at hAl3
      unfold jH at hAl3
      simp only at hAl3
      replace hAl3:=aa hAl3
      have hX9:=aa (fun (W:World) (g:Nat) (vs:List Value) (b B:Nat) (hW:Below wr.heap.size wr W) (hO:bC W b B g vs X)=>jj X X (some ⟨g,0,none⟩) (some ⟨og,0,none⟩) X.length X.length W (hO.sl hXm) ((hOr.below hW).sl hXm) rfl)
      rw [rl.out] at hX9
      clear hSA hS6 hS7
      go_upto_region 16 with (go_at_call 7;refine hAl3.out.mono ?_;rintro e w8 ⟨b8,og8,vs8,v8,he8,hbb8,hO8,hC8,hb8⟩;obtain ⟨AG,cG,rfl⟩:=hC8.form;subst he8)
      have hb68:=hb67.trans (hb8.mono hb67.size)
      have hS8:=hX9.out w8 og8 vs8 b8 _ hb68 hO8
      clear y0 y1 y2 y3 y4 y5 y6 y7 y8 y9 y10 y11 ly hAl3
      go_wp2_with (first|(go_at_call 9;refine hS8.mono ?_;rintro e w9 ⟨rfl,hb9⟩;have hb69:=hA9.out _ (hb68.trans (hb9.mono hb68.size)))|(go_at_call 6;refine (hKn.out _ hb69).mono ?_;rintro e w5 ⟨rfl,hb5⟩))
      go_ret
      exact ⟨rfl,hfin.out _ hb5⟩
end
section
open Go.ChangeShapes Go.WideShapes Go.ChangeAt Go.RowKit Go.Deep
def Rd {α:Type} (t:TypeId) (R:CR α):Prop:=
 ∀ (H:Type) (enc:TypeId×Value→H) (w:World) (fuel:Nat) (cs:List Value) (x:DataW H×List MemPlace),DataW.trod enc prog w 0 (fun _=>true) true fuel t cs=some x→∃ a,R w w.heap.size cs a
theorem Ey {t:TypeId} (ht:prog.underlying t=some (.int .i64)):Rd t bc:=fun _ _ _ _ _ _ h=>by
 obtain ⟨n,rfl,_,_⟩:=DataW.trod_int ht h
 exact ⟨n,rfl⟩
theorem Ez {t:TypeId} (ht:prog.underlying t=some .string):Rd t cJ:=fun _ _ _ _ _ _ h=>by
 obtain ⟨s,rfl,_,hs⟩:=DataW.trod_string ht h
 exact ⟨s,rfl,hs⟩
theorem yi {w:World} {a:Addr} {v:Value} (h:w.cell? a=some v):∃ b o,a=⟨b,o,none⟩:=by
 obtain ⟨b,o,spot⟩:=a
 cases spot with
 |none=>exact ⟨b,o,rfl⟩
 |some s=>simp [World.cell?] at h;split at h<;>cases h
theorem j6 {α:Type} {p:Nat→α→Prop}:∀ len:Nat,(∀ i,i<len→∃ a,p i a)→∃ xs:List α,xs.length=len∧∀ i x,xs[i]? =some x→p i x
 |0,_=>⟨[],rfl,fun i x h=>by simp at h⟩
 |len+1,h=>by
  obtain ⟨xs,h1,h2⟩:=j6 len (fun i hi=>h i (by omega))
  obtain ⟨a,ha⟩:=h len (by omega)
  refine ⟨xs++ [a],by simp [h1],fun i x hx=> ?_⟩
  by_cases hi:i<len
  ·rw [Ip (by omega)] at hx
   exact h2 i x hx
  ·have hil:i=len:=by
    have:=(H1.1 hx).1
    simp [h1] at this;omega
   subst hil
   rw [Ik (by omega),h1] at hx
   simp at hx
   subst hx
   exact ha
theorem uo {H:Type} {enc:TypeId×Value→H} {P:Program} {f:Func} {s:ChangeSpec} {apart fresh handsOn:Bool} {W W':World} {args:Array Value} {v:Value} {ds gs:List (DataW H)} {before pa pv:List MemPlace}
  (hW:DataW.Whole enc P f.params.toList s.vars apart W args.toList ds gs before)
  (hres:∀ (b:Nat) (sp:Nat→Bool) (hd:Bool),DataW.TrodAll enc P W' b sp hd f.resultTypes.toList (v.resultList f.resultTypes.size) (s.fn H (ds++gs)).results [])
  (hargs:DataW.TrodAll enc P W' 0 (fun b=>decide (b<W.heap.size)) true f.params.toList args.toList (s.fn H (ds++gs)).args pa)
  (hvars:DataW.TrodVars enc P W' (fun b=>decide (b<W.heap.size)) s.vars (s.fn H (ds++gs)).vars pv)
  (hps:before=pa++pv) (hb:Below W.heap.size W W'):s.post enc P f apart fresh handsOn false W args v W':=by
 have hlt:∀ p∈before,p.block<W.heap.size:=fun p hp=>hW.lt p hp
 refine ⟨ds,gs,before,[],pa,pv,hW,hres _ _ _,hargs,hvars,World.keptBut_mono (fun p hp=>⟨hp,?_⟩) (hb.frame (· ∈before)),fun h=>by cases h⟩
 rw [hps,HZ] at hp
 exact Or.inr hp
end
section
open Go.ChangeShapes Go.WideShapes Go.ChangeAt Go.RowKit Go.Deep
def gR {α:Type} (m:Nat) (t:TypeId) (R:CR α):Prop:=
 ∀ (H:Type) (enc:TypeId×Value→H) (w:World) (fuel:Nat) (cs:List Value) (x:DataW H×List MemPlace),DataW.trod enc prog w 0 (fun _=>true) true fuel t cs=some x→Rows.uptoBulk x.1≤m→∃ a,R w w.heap.size cs a
theorem BH {α:Type} {m:Nat} {t:TypeId} {R:CR α} (h:Rd t R):gR m t R:=fun H enc w fuel cs x hx _=>h H enc w fuel cs x hx
theorem sg {H:Type} {d:DataW H}:∀ {l:List (DataW H)},d∈l→Rows.uptoBulk d≤Rows.uptoBulkAll l
 | [],h=>by simp at h
 |y::l,h=>by
  simp only [Rows.uptoBulkAll]
  rcases HU.1 h with rfl|h
  ·omega
  ·have:=sg h;omega
def BI (m:Nat):CR ByteArray:=fun _ _ cs s=>cs= [.string s]∧s.size≤maxLen∧s.size≤m
theorem Dj {m:Nat} {t:TypeId} (ht:prog.underlying t=some .string):gR m t (BI m):=fun _ _ _ _ _ _ h hb=>by
 obtain ⟨s,rfl,hx,hs⟩:=DataW.trod_string ht h
 refine ⟨s,rfl,hs,?_⟩
 rw [hx] at hb
 simp only [Rows.uptoBulk] at hb
 have:s.data.toList.length=s.size:=rfl
 omega
theorem yj {α:Type} {R:CR α} {t e:TypeId} {k m:Nat} (ht:prog.underlying t=some (.slice e)) (hk:prog.cellsOf e=k) (hk0:0<k) (he:gR m e R):gR (m+1) t (mS k R):=fun H enc w fuel cs x h hb=>by
 rcases open_slice ht h with ⟨rfl,_⟩|⟨a,len,cap,mm,n,D,Pl,rfl,_,hl,hm,hmm,hxx,hx⟩
 ·exact ⟨[],none,0,rfl,Sl.nil_⟩
 ·simp only [if_true] at hmm
  subst hmm
  have hbD:∀ i,i<len→Rows.uptoBulk (D i)≤m:=fun i hi=>by
   rw [hxx] at hb
   simp only [Rows.uptoBulk] at hb
   have:=sg (d:=D i) (l:=(HX len).map D) (List.mem_map.2 ⟨i,H5.2 hi,rfl⟩)
   omega
  obtain ⟨xs,hlen,hxs⟩:=j6 (p:=fun i y=>∃ ecs:List Value,ecs.length=k∧(∀ j,j<k→w.cell? ((a.add (i*k)).add j)=ecs[j]?)∧R w w.heap.size ecs y) len (fun i hi=>by
   obtain ⟨cs',hc,htr⟩:=hx i (by omega)
   rw [hk] at hc
   obtain ⟨_,h1,h2⟩:=World.cells?_some hc
   obtain ⟨y,hy⟩:=he H enc w n cs' _ htr (hbD i hi)
   exact ⟨y,cs',h1,h2,hy⟩)
  refine ⟨xs,some a,mm,by rw [hlen],by omega,fun i y hy=> ?_⟩
  have hi:i<len:=by rw [←hlen];exact (H1.1 hy).1
  obtain ⟨ecs0,g1,g2,_⟩:=hxs 0 (xs[0]'(by omega)) (HA (by omega))
  have hz:w.cell? a=some (ecs0[0]'(by omega)):=by
   have:=g2 0 hk0
   rw [HA (by omega)] at this
   simpa [Addr.add] using this
  obtain ⟨b,o,rfl⟩:=yi hz
  have hb:=World.block_lt_of_cell? w _ hz
  obtain ⟨ecs,h1,h2,h3⟩:=hxs i y hy
  have hadd:∀ j,((⟨b,o,none⟩:Addr).add (i*k)).add j=⟨b,o+i*k+j,none⟩:=fun j=>by unfold Addr.add;split<;>split<;>simp_all
  refine ⟨b,o,ecs,rfl,hb,h1,fun j u hu=> ?_,h3⟩
  have hj:j<k:=by have:=(H1.1 hu).1;omega
  rw [←hadd j,h2 j hj,hu]
theorem ap {H:Type} (d:DataW H):1≤Rows.uptoBulk d:=by
 cases d with
 |lit l=>cases l<;>simp [Rows.uptoBulk]
 |_=>simp [Rows.uptoBulk]
theorem Sl.imp {α:Type} {R R':CR α} {k:Nat} {w:World} {B:Nat} {A:Option Addr} {xs:List α} (h:Sl k R w B A xs) (hi:∀ cs x,R w B cs x→R' w B cs x):Sl k R' w B A xs:=
 ⟨h.1,fun i x hx=>by
  obtain ⟨b,o,ecs,h1,h2,h3,h4,h5⟩:=h.2 i x hx
  exact ⟨b,o,ecs,h1,h2,h3,h4,hi _ _ h5⟩⟩
end
section
open Go.ChangeShapes Go.WideShapes Go.ChangeAt Go.RowKit Go.Deep
theorem Dk {n:Int} (h:(Lit.int .u64 n).wf=true):aW n:=by
 simp [Lit.wf,IntKind.min,IntKind.max,IntKind.signed,IntKind.bits] at h
 unfold aW;omega
theorem EB {n:Int} (h:(Lit.int .u8 n).wf=true):u8 n:=by
 simp [Lit.wf,IntKind.min,IntKind.max,IntKind.signed,IntKind.bits] at h
 unfold u8;omega
def Ge:CR Int:=fun _ _ cs n=>cs= [.int .u64 n]∧aW n
def G9:CR Int:=fun _ _ cs n=>cs= [.int .u8 n]∧u8 n
theorem bH {m:Nat}:gR m 3 bc:=BH (Ey underlying3)
theorem Dl {m:Nat}:gR m 9 cJ:=BH (Ez underlying9)
theorem vm {m:Nat}:gR m 94 Ge:=fun _ _ _ _ _ _ h _=>by
 obtain ⟨n,rfl,_,hw⟩:=DataW.trod_int underlying94 h
 exact ⟨n,rfl,Dk hw⟩
theorem pN {m:Nat}:gR m 5 G9:=fun _ _ _ _ _ _ h _=>by
 obtain ⟨n,rfl,_,hw⟩:=DataW.trod_int underlying5 h
 exact ⟨n,rfl,EB hw⟩
theorem Fy {m:Nat}:gR m 5 B8:=fun H enc w fuel cs x h hb=>by
 obtain ⟨n,e,-⟩:=pN H enc w fuel cs x h hb
 exact ⟨n,e⟩
theorem yk {H:Type} (l:List (DataW H)):l.length≤Rows.uptoBulkAll l:=by
 induction l with
 |nil=>simp [Rows.uptoBulkAll]
 |cons x r ih=>have:=ap x;simp only [Rows.uptoBulkAll,HN];omega
def Gf {α:Type} (m k:Nat) (R:CR α):CR (List α):=fun w B cs xs=>∃ A cap,cs= [.slice A xs.length cap]∧Sl k R w B A xs∧xs.length≤cap∧xs.length≤m
theorem fH {α:Type} {R:CR α} {t e:TypeId} {k m:Nat} (ht:prog.underlying t=some (.slice e)) (hk:prog.cellsOf e=k) (hk0:0<k) (he:gR m e R):gR m t (Gf m k R):=fun H enc w fuel cs x h hb=>by
 obtain ⟨xs,A,cap,e1,hS⟩:=yj ht hk hk0 he H enc w fuel cs x h (Nat.le_succ_of_le hb)
 refine ⟨xs,A,cap,e1,hS,?_⟩
 rcases open_slice ht h with ⟨rfl,_⟩|⟨a,len,cap',mm,n,D,Pl,rfl,_,hl,hm,hmm,hxx,hx⟩
 ·injection e1 with e1 _
  injection e1 with _ e2 e3
  omega
 ·injection e1 with e1 _
  injection e1 with _ e2 e3
  rw [hxx] at hb
  simp only [Rows.uptoBulk] at hb
  have:=yk ((HX len).map D)
  simp at this
  omega
theorem bV {α:Type} {R:CR α} {t e:TypeId} {k m:Nat} (ht:prog.underlying t=some (.slice e)) (hk:prog.cellsOf e=k) (hk0:0<k) (he:gR m e R):gR m t (mS k R):=fun H enc w fuel cs x h hb=>by
 obtain ⟨xs,A,cap,e1,hS,-⟩:=fH ht hk hk0 he H enc w fuel cs x h hb
 exact ⟨xs,A,cap,e1,hS⟩
def Ha:CR Rn:=fun w B cs x=>∃ A cap,cs= [.int .i64 x.act,.slice A x.args.length cap]∧Sl 2 f8 w B A x.args
structure GY where
 nh:List ByteArray
 nf:List (List ByteArray)
 nm:List ByteArray
 na:List ByteArray
 nt:List ByteArray
def Gg:CR GY:=fun w B cs x=>∃ A8 A9 A10 A11 A12 c8 c9 c10 c11 c12,cs= [.slice A8 x.nh.length c8,.slice A9 x.nf.length c9,.slice A10 x.nm.length c10,.slice A11 x.na.length c11,.slice A12 x.nt.length c12]∧Sl 1 cJ w B A8 x.nh∧Sl 1 (mS 1 cJ) w B A9 x.nf∧Sl 1 cJ w B A10 x.nm∧Sl 1 cJ w B A11 x.na∧Sl 1 cJ w B A12 x.nt
def Hb:CR Lp:=fun w B cs p=>∃ A1 A2 A3 A4 A5 A6 A7 A8 A9 A10 A11 A12 c1 c2 c3 c4 c5 c6 c7 c8 c9 c10 c11 c12,cs=(#[.slice A1 p.heads.length c1,.slice A2 p.metas.length c2,.slice A3 p.steps.length c3,.slice A4 p.acts.length c4,.slice A5 p.tabs.length c5,.slice A6 p.control.length c6,.slice A7 p.emit.length c7,.slice A8 p.nh.length c8,.slice A9 p.nf.length c9,.slice A10 p.nm.length c10,.slice A11 p.na.length c11,.slice A12 p.nt.length c12]:Array Value).toList∧cz w B A1 A2 A3 A4 A5 A6 A7 A8 A9 A10 A11 A12 p∧p.emit.length≤c7
theorem bI:prog.cellsOf 3=1:=by kernel_rfl
theorem mK:prog.cellsOf 94=1:=by kernel_rfl
theorem gS:prog.cellsOf 5=1:=by kernel_rfl
theorem mL:prog.cellsOf 9=1:=by kernel_rfl
theorem jm:prog.cellsOf 96=2:=by kernel_rfl
theorem sh:prog.cellsOf 98=6:=by kernel_rfl
theorem mM:prog.cellsOf 81=1:=by kernel_rfl
theorem mN:prog.cellsOf 123=5:=by kernel_rfl
theorem pO:prog.cellsOf 101=4:=by kernel_rfl
theorem mO:prog.cellsOf 83=2:=by kernel_rfl
theorem si:prog.cellsOf 79=4:=by kernel_rfl
theorem vn:prog.cellsOf 85=2:=by kernel_rfl
theorem pP:prog.cellsOf 47=2:=by kernel_rfl
theorem vo:prog.cellsOf 88=5:=by kernel_rfl
theorem oK:prog.cellsOf 31=5:=by kernel_rfl
theorem BJ:prog.cellsOf 33=12:=by kernel_rfl
theorem fI:prog.cellsOf 23=1:=by kernel_rfl
theorem yo:prog.cellsOf 22=1:=by kernel_rfl
theorem BK:prog.cellsOf 45=1:=by kernel_rfl
theorem oL:prog.cellsOf 76=1:=by kernel_rfl
theorem up:prog.cellsOf 86=1:=by kernel_rfl
theorem d9:prog.cellsOf 28=1:=by kernel_rfl
theorem pQ:prog.cellsOf 29=1:=by kernel_rfl
theorem oM:prog.cellsOf 27=1:=by kernel_rfl
theorem sj:prog.cellsOf 44=1:=by kernel_rfl
theorem sn:prog.cellsOf 77=1:=by kernel_rfl
theorem yq:prog.cellsOf 24=1:=by kernel_rfl
theorem BL:prog.cellsOf 25=1:=by kernel_rfl
theorem BM:prog.cellsOf 26=1:=by kernel_rfl
theorem kM {m:Nat} (hm:m≤sm):gR m 96 f8:=fun H enc w fuel cs x h hb=>by
 obtain ⟨xs,n,_,rfl,hl,hlen,hg⟩:=DataW.trod_struct underlying96 h
 rw [jm] at hl
 match xs,hlen with
 | [y0,y1],_=>
  simp only [List.map_cons,List.map_nil,Rows.uptoBulk,Rows.uptoBulkAll] at hb
  have p0:=ap y0.1
  have p1:=ap y1.1
  match cs,hl with
  | [a0,a1],_=>
   obtain ⟨v0,e0,h0⟩:=vm (m:=m) H enc w n [a0] y0 (by simpa [mK] using hg 0 _ rfl) (by omega)
   obtain ⟨v1,e1,h1⟩:=vm (m:=m) H enc w n [a1] y1 (by simpa [mK] using hg 1 _ rfl) (by omega)
   cases e0
   cases e1
   exact ⟨(v0,v1),rfl,h0,h1⟩
theorem BN {m:Nat} (hm:m≤sm):gR m 98 zo:=fun H enc w fuel cs x h hb=>by
 obtain ⟨xs,n,_,rfl,hl,hlen,hg⟩:=DataW.trod_struct underlying98 h
 rw [sh] at hl
 match xs,hlen with
 | [y0,y1,y2,y3,y4],_=>
  simp only [List.map_cons,List.map_nil,Rows.uptoBulk,Rows.uptoBulkAll] at hb
  have p0:=ap y0.1
  have p1:=ap y1.1
  have p2:=ap y2.1
  have p3:=ap y3.1
  have p4:=ap y4.1
  match cs,hl with
  | [a0,a1,a2,a3,a4,a5],_=>
   obtain ⟨v0,e0,h0⟩:=pN (m:=m) H enc w n [a0] y0 (by simpa [gS] using hg 0 _ rfl) (by omega)
   obtain ⟨v1,e1⟩:=bH (m:=m) H enc w n [a1] y1 (by simpa [bI] using hg 1 _ rfl) (by omega)
   obtain ⟨v2,e2⟩:=bH (m:=m) H enc w n [a2] y2 (by simpa [bI] using hg 2 _ rfl) (by omega)
   obtain ⟨v3,e3⟩:=bH (m:=m) H enc w n [a3] y3 (by simpa [bI] using hg 3 _ rfl) (by omega)
   obtain ⟨v4,e4,h4,k4⟩:=kM hm H enc w n [a4,a5] y4 (by simpa [jm] using hg 4 _ rfl) (by omega)
   cases e0
   cases e1
   cases e2
   cases e3
   cases e4
   exact ⟨⟨v0,v1,v2,v3,v4.1,v4.2⟩,rfl,h0,h4,k4⟩
theorem mP {m:Nat} (hm:m≤sm):gR m 81 pT:=bV (m:=m) (t:=81) (e:=98) (k:=6) underlying81 sh (by decide) (BN hm)
theorem jn {m:Nat}:gR m 23 (mS 1 bc):=bV (m:=m) (t:=23) (e:=3) (k:=1) underlying23 bI (by decide) bH
theorem mQ {m:Nat}:gR m 28 (mS 1 cJ):=bV (m:=m) (t:=28) (e:=9) (k:=1) underlying28 mL (by decide) Dl
theorem so {m:Nat} (hm:m≤sm):gR m 123 m7:=fun H enc w fuel cs x h hb=>by
 obtain ⟨xs,n,_,rfl,hl,hlen,hg⟩:=DataW.trod_struct underlying123 h
 rw [mN] at hl
 match xs,hlen with
 | [y0,y1,y2,y3,y4],_=>
  simp only [List.map_cons,List.map_nil,Rows.uptoBulk,Rows.uptoBulkAll] at hb
  have p0:=ap y0.1
  have p1:=ap y1.1
  have p2:=ap y2.1
  have p3:=ap y3.1
  have p4:=ap y4.1
  match cs,hl with
  | [a0,a1,a2,a3,a4],_=>
   obtain ⟨v0,e0,h0⟩:=pN (m:=m) H enc w n [a0] y0 (by simpa [gS] using hg 0 _ rfl) (by omega)
   obtain ⟨v1,e1⟩:=bH (m:=m) H enc w n [a1] y1 (by simpa [bI] using hg 1 _ rfl) (by omega)
   obtain ⟨v2,e2⟩:=bH (m:=m) H enc w n [a2] y2 (by simpa [bI] using hg 2 _ rfl) (by omega)
   obtain ⟨v3,A3,c3,e3,h3⟩:=mP hm H enc w n [a3] y3 (by simpa [mM] using hg 3 _ rfl) (by omega)
   obtain ⟨v4,e4⟩:=bH (m:=m) H enc w n [a4] y4 (by simpa [bI] using hg 4 _ rfl) (by omega)
   cases e0
   cases e1
   cases e2
   cases e3
   cases e4
   exact ⟨⟨v0,v1,v2,v3,v4⟩,A3,c3,rfl,h3⟩
theorem vp {m:Nat} (hm:m≤sm):gR m 101 gT:=fun H enc w fuel cs x h hb=>by
 obtain ⟨xs,n,_,rfl,hl,hlen,hg⟩:=DataW.trod_struct underlying101 h
 rw [pO] at hl
 match xs,hlen with
 | [y0,y1],_=>
  simp only [List.map_cons,List.map_nil,Rows.uptoBulk,Rows.uptoBulkAll] at hb
  have p0:=ap y0.1
  have p1:=ap y1.1
  match cs,hl with
  | [a0,a1,a2,a3],_=>
   obtain ⟨v0,e0,h0,k0⟩:=kM hm H enc w n [a0,a1] y0 (by simpa [jm] using hg 0 _ rfl) (by omega)
   obtain ⟨v1,e1,h1,k1⟩:=kM hm H enc w n [a2,a3] y1 (by simpa [jm] using hg 1 _ rfl) (by omega)
   cases e0
   cases e1
   exact ⟨⟨v0.1,v0.2,v1.1,v1.2⟩,rfl,h0,k0,h1,k1⟩
theorem uq {m:Nat} (hm:m≤sm):gR m 83 vM:=fun H enc w fuel cs x h hb=>by
 obtain ⟨xs,n,_,rfl,hl,hlen,hg⟩:=DataW.trod_struct underlying83 h
 rw [mO] at hl
 match xs,hlen with
 | [y0,y1],_=>
  simp only [List.map_cons,List.map_nil,Rows.uptoBulk,Rows.uptoBulkAll] at hb
  have p0:=ap y0.1
  have p1:=ap y1.1
  match cs,hl with
  | [a0,a1],_=>
   obtain ⟨v0,A0,c0,e0,h0⟩:=bV (m:=m) (t:=44) (e:=101) (k:=4) underlying44 pO (by decide) (vp hm) H enc w n [a0] y0 (by simpa [sj] using hg 0 _ rfl) (by omega)
   obtain ⟨v1,e1⟩:=bH (m:=m) H enc w n [a1] y1 (by simpa [bI] using hg 1 _ rfl) (by omega)
   cases e0
   cases e1
   exact ⟨⟨v0,v1⟩,A0,c0,rfl,h0⟩
theorem BO {m:Nat} (hm:m≤sm):gR m 79 m8:=fun H enc w fuel cs x h hb=>by
 obtain ⟨xs,n,_,rfl,hl,hlen,hg⟩:=DataW.trod_struct underlying79 h
 rw [si] at hl
 match xs,hlen with
 | [y0,y1,y2,y3],_=>
  simp only [List.map_cons,List.map_nil,Rows.uptoBulk,Rows.uptoBulkAll] at hb
  have p0:=ap y0.1
  have p1:=ap y1.1
  have p2:=ap y2.1
  have p3:=ap y3.1
  match cs,hl with
  | [a0,a1,a2,a3],_=>
   obtain ⟨v0,A0,c0,e0,h0⟩:=jn (m:=m) H enc w n [a0] y0 (by simpa [fI] using hg 0 _ rfl) (by omega)
   obtain ⟨v1,A1,c1,e1,h1,g1,k1⟩:=fH (m:=m) (t:=76) (e:=81) (k:=1) underlying76 mM (by decide) (mP hm) H enc w n [a1] y1 (by simpa [oL] using hg 1 _ rfl) (by omega)
   obtain ⟨v2,A2,c2,e2,h2⟩:=bV (m:=m) (t:=77) (e:=83) (k:=2) underlying77 mO (by decide) (uq hm) H enc w n [a2] y2 (by simpa [sn] using hg 2 _ rfl) (by omega)
   obtain ⟨v3,e3⟩:=bH (m:=m) H enc w n [a3] y3 (by simpa [bI] using hg 3 _ rfl) (by omega)
   cases e0
   cases e1
   cases e2
   cases e3
   exact ⟨⟨v0,v1,v2,v3⟩,A0,A1,A2,c0,c1,c2,rfl,h0,h1,h2,Hw k1 hm⟩
theorem Dm {m:Nat} (hm:m≤sm):gR m 85 zp:=fun H enc w fuel cs x h hb=>by
 obtain ⟨xs,n,_,rfl,hl,hlen,hg⟩:=DataW.trod_struct underlying85 h
 rw [vn] at hl
 match xs,hlen with
 | [y0,y1],_=>
  simp only [List.map_cons,List.map_nil,Rows.uptoBulk,Rows.uptoBulkAll] at hb
  have p0:=ap y0.1
  have p1:=ap y1.1
  match cs,hl with
  | [a0,a1],_=>
   obtain ⟨v0,A0,c0,e0,h0⟩:=jn (m:=m) H enc w n [a0] y0 (by simpa [fI] using hg 0 _ rfl) (by omega)
   obtain ⟨v1,A1,c1,e1,h1⟩:=bV (m:=m) (t:=27) (e:=123) (k:=5) underlying27 mN (by decide) (so hm) H enc w n [a1] y1 (by simpa [oM] using hg 1 _ rfl) (by omega)
   cases e0
   cases e1
   exact ⟨⟨v0,v1⟩,A0,A1,c0,c1,rfl,h0,h1⟩
theorem vq {m:Nat} (hm:m≤sm):gR m 47 Ha:=fun H enc w fuel cs x h hb=>by
 obtain ⟨xs,n,_,rfl,hl,hlen,hg⟩:=DataW.trod_struct underlying47 h
 rw [pP] at hl
 match xs,hlen with
 | [y0,y1],_=>
  simp only [List.map_cons,List.map_nil,Rows.uptoBulk,Rows.uptoBulkAll] at hb
  have p0:=ap y0.1
  have p1:=ap y1.1
  match cs,hl with
  | [a0,a1],_=>
   obtain ⟨v0,e0⟩:=bH (m:=m) H enc w n [a0] y0 (by simpa [bI] using hg 0 _ rfl) (by omega)
   obtain ⟨v1,A1,c1,e1,h1⟩:=bV (m:=m) (t:=45) (e:=96) (k:=2) underlying45 jm (by decide) (kM hm) H enc w n [a1] y1 (by simpa [BK] using hg 1 _ rfl) (by omega)
   cases e0
   cases e1
   exact ⟨⟨v0,v1⟩,A1,c1,rfl,h1⟩
theorem Dn {m:Nat} (hm:m≤sm):gR m 88 oX:=fun H enc w fuel cs x h hb=>by
 obtain ⟨xs,n,_,rfl,hl,hlen,hg⟩:=DataW.trod_struct underlying88 h
 rw [vo] at hl
 match xs,hlen with
 | [y0,y1,y2,y3],_=>
  simp only [List.map_cons,List.map_nil,Rows.uptoBulk,Rows.uptoBulkAll] at hb
  have p0:=ap y0.1
  have p1:=ap y1.1
  have p2:=ap y2.1
  have p3:=ap y3.1
  match cs,hl with
  | [a0,a1,a2,a3,a4],_=>
   obtain ⟨v0,A0,c0,e0,h0,g0,k0⟩:=fH (m:=m) (t:=76) (e:=81) (k:=1) underlying76 mM (by decide) (mP hm) H enc w n [a0] y0 (by simpa [oL] using hg 0 _ rfl) (by omega)
   obtain ⟨v1,A1,c1,e1,h1⟩:=bV (m:=m) (t:=86) (e:=5) (k:=1) underlying86 gS (by decide) Fy H enc w n [a1] y1 (by simpa [up] using hg 1 _ rfl) (by omega)
   obtain ⟨v2,A2,c2,e2,h2,g2,k2⟩:=fH (m:=m) (t:=23) (e:=3) (k:=1) underlying23 bI (by decide) bH H enc w n [a2] y2 (by simpa [fI] using hg 2 _ rfl) (by omega)
   obtain ⟨v3,A3,c3,e3,h3⟩:=vq hm H enc w n [a3,a4] y3 (by simpa [pP] using hg 3 _ rfl) (by omega)
   cases e0
   cases e1
   cases e2
   cases e3
   exact ⟨⟨v0,v1,v2,v3⟩,A0,A1,A2,A3,c0,c1,c2,c3,rfl,h0,h1,h2,h3,Hw k0 hm,g2⟩
theorem BP {w:World} {B:Nat} {A:Option Addr} {c:List Nd} (h:Sl 6 zo w B A c):sQ c:=fun n hn=>by
 obtain ⟨i,hi,rfl⟩:=H0 hn
 obtain ⟨_,_,_,_,_,_,_,_,h1,_⟩:=h.2 i _ (HA hi)
 exact h1.1
theorem vr {w:World} {B:Nat} {A:Option Addr} {l:List (List Nd)} (h:Sl 1 pT w B A l):∀ c∈l,sQ c:=fun c hc=>by
 obtain ⟨i,hi,rfl⟩:=H0 hc
 obtain ⟨_,_,_,_,_,_,_,A',cap,_,hs⟩:=h.2 i _ (HA hi)
 exact BP hs
theorem BQ {w:World} {B:Nat} {A:Option Addr} {l:List mW} (h:Sl 5 m7 w B A l):∀ x∈l,sQ x.e:=fun x hx=>by
 obtain ⟨i,hi,rfl⟩:=H0 hx
 obtain ⟨_,_,_,_,_,_,_,A',cap,_,hs⟩:=h.2 i _ (HA hi)
 exact BP hs
theorem EC {w:World} {B:Nat} (A1 A2 A3 A4 A5 A6 A7 A8 A9 A10 A11 A12:Option Addr) (p:Lp) (c1 c2 c3 c4 c5 c6 c7 c8 c9 c10 c11 c12:Nat) (h:cz w B A1 A2 A3 A4 A5 A6 A7 A8 A9 A10 A11 A12 p):DM p:=by
 refine ⟨BQ h.control,fun a ha=> ?_,fun s hs=> ?_,fun t ht=> ?_⟩
 ·obtain ⟨i,hi,rfl⟩:=H0 ha
  obtain ⟨_,_,_,_,_,_,_,_,_,_,_,_,_,h2⟩:=h.acts.2 i _ (HA hi)
  exact BQ h2
 ·obtain ⟨i,hi,rfl⟩:=H0 hs
  obtain ⟨_,_,_,_,_,_,_,_,_,_,_,_,_,_,_,h2,_⟩:=h.steps.2 i _ (HA hi)
  exact vr h2
 ·obtain ⟨i,hi,rfl⟩:=H0 ht
  obtain ⟨_,_,_,_,_,_,_,_,_,_,_,_,_,_,_,_,h1,_⟩:=h.tabs.2 i _ (HA hi)
  exact vr h1
end
end Go.Proofs.YtijcdfdbkffiaaaGreatDoor

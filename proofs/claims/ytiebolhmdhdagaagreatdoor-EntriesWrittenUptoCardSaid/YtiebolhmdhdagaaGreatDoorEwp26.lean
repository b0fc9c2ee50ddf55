import Derived.Test.YtiebolhmdhdagaaGreatDoorEwp25
set_option linter.all false
set_option maxHeartbeats 8000000
set_option maxRecDepth 100000
open Go.Proofs.Tryz
namespace Go.Proofs.YtiebolhmdhdagaaGreatDoor
open _root_.Nat renaming lt_of_lt_of_le→He, le_refl→Hh, le_trans→Hj, zero_le→Hm, le_of_lt→Hs, lt_trans→HB, mul_le_mul_right→Ib
open _root_.Go.RowKit.Below renaming refl→Hf
open _root_.Bool renaming false_and→Hg, true_and→Hk, and_eq_true→Hl
open _root_.Go.Calls renaming regrown_of→Hi
open _root_.List renaming getElem?_eq_getElem→Hn, getElem_mem→Ho, length_cons→Hp, length_append→Hu, all_eq_true→Hx, mem_cons→HD, mem_cons_self→HE, mem_cons_of_mem→HI, take_length→HZ, drop_eq_getElem_cons→H4, flatMap_cons→H7
open _root_.Go.Sort renaming grow→Ht
open _root_.Int renaming eq_ofNat_of_zero_le→Hv
open _root_.Option renaming getD_some→H9
open Go.RowKit
theorem yM (A1 A2 A3 A4 A5 A6 A7 A8 A9 A10 A11 A12:Option Addr) (p:Lp) (c1 c2 c3 c4 c5 c6 c7 c8 c9 c10 c11 c12:Nat) (x:aR) (P1 P2:Option Addr) (d1 d2:Nat) (w:World) (h:cJ w w.heap.size A1 A2 A3 A4 A5 A6 A7 A8 A9 A10 A11 A12 p) (hkk:∀ t∈p.tabs,t.kinds.length=t.keys.length) (h1:Sl 4 mR w w.heap.size P1 x.pats) (h2:Sl 2 ke w w.heap.size P2 x.run.args):
  Calls prog 21 #[.agg #[.slice A1 p.heads.length c1,.slice A2 p.metas.length c2,.slice A3 p.steps.length c3,.slice A4 p.acts.length c4,.slice A5 p.tabs.length c5,.slice A6 p.control.length c6,.slice A7 p.emit.length c7,.slice A8 p.nh.length c8,.slice A9 p.nf.length c9,.slice A10 p.nm.length c10,.slice A11 p.na.length c11,.slice A12 p.nt.length c12],sf P1 d1 P2 d2 x] w fun e w'=>e=.returned (.bool (gm p x))∧Below w.heap.size w w':=by
 obtain ⟨tab,pats,len,prio,act,args⟩:=x
 simp only at h1 h2 ⊢
 have lp1:=h1.len
 have lt5:=h.tabs.len
 obtain ⟨wz,hwz,hsz,hbz,hcz,-⟩:=ak w #[.slice A1 p.heads.length c1,.slice A2 p.metas.length c2,.slice A3 p.steps.length c3,.slice A4 p.acts.length c4,.slice A5 p.tabs.length c5,.slice A6 p.control.length c6,.slice A7 p.emit.length c7,.slice A8 p.nh.length c8,.slice A9 p.nf.length c9,.slice A10 p.nm.length c10,.slice A11 p.na.length c11,.slice A12 p.nt.length c12] 33
 obtain ⟨wa,hwa,hsa,hba,hca,-⟩:=ak wz #[.int .i64 tab,.slice P1 pats.length d1,.int .i64 len,.int .i64 prio,.int .i64 act,.slice P2 args.length d2] 57
 obtain ⟨y0,y1,y2,y3,y4,y5,y6,y7,y8,y9,y10,y11⟩:=aC fun i=>(bH hba w.heap.size i (by omega)).trans (hcz i)
 rw [hsz] at hca
 obtain ⟨x0,x1,x2,x3,x4,x5⟩:=iK hca
 have l1:w.heap.size<wa.heap.size:=by omega
 have l2:w.heap.size+1<wa.heap.size:=by omega
 have hw:Below w.heap.size w wa:=hbz.trans (hba.mono (by omega))
 have hP:=aa (fun (W:World) (hW:Below wa.heap.size wa W)=>((h.below hw).below (hW.mono hw.size)).more (Hj hw.size hW.size))
 have hPt:=aa (fun (W:World) (hW:Below wa.heap.size wa W)=>((h1.below aL hw).below aL (hW.mono hw.size)).more aL (Hj hw.size hW.size))
 have hNu:=aa (fun (W:World) (hW:Below wa.heap.size wa W)=>((h2.below aw hw).below aw (hW.mono hw.size)).more aw (Hj hw.size hW.size))
 have hTb:=aa ((hP.out wa (Hf _ _)).tabs)
 have hfin:=aa (fun (W:World) (hW:Below wa.heap.size wa W)=>hw.trans (hW.mono hw.size))
 replace hsa:=aa hsa
 clear hcz hca hba hbz h h1 h2 hw
 go_enter func21,ntmps21
 rcases dt p.tabs tab with ⟨k,rfl,hk,e1⟩|⟨e1,e2,e3⟩
 focus
  have hkz:(k:Int)<(p.tabs.length:Int):=by omega
  have g1:decide ((k:Int)<0)=false:=decide_eq_false (by omega)
  have g2:decide ((p.tabs.length:Int)≤(k:Int))=false:=decide_eq_false (by omega)
  have g2':decide (p.tabs.length≤k)=false:=decide_eq_false (by omega)
  have hv:=aa (C0 (p:=p) (e:=⟨(k:Int),pats,len,prio,⟨act,args⟩⟩) e1)
  have hkl:=aa (hkk _ (Ho hk))
  generalize gm p ⟨(k:Int),pats,len,prio,⟨act,args⟩⟩=RES at hv ⊢
  by_cases hp0:0≤prio
  ·have g3:decide (prio<0)=false:=decide_eq_false (by omega)
   by_cases hp1:prio≤65536
   ·have g4:decide ((65536:Int)<prio)=false:=decide_eq_false (by omega)
    have hv1:=aa (hv.out.trans (by rw [pF hp0 hp1,Hk]))
    obtain ⟨b,o,ecs,rfl,hb,hn,hcell,Q1,Q2,Q3,Q4,q1,q2,q3,q4,rfl,s1,s2,s3,s4,-,-⟩:=hTb.out.2 k _ (Hn hk)
    have z0:wa.cell? ⟨b,o+k*5,none⟩=some (.slice Q1 p.tabs[k].keys.length q1):=hcell 0 _ rfl
    have z1:wa.cell? ⟨b,o+k*5+1,none⟩=some (.slice Q2 p.tabs[k].kinds.length q2):=hcell 1 _ rfl
    have z2:wa.cell? ⟨b,o+k*5+2,none⟩=some (.slice Q3 p.tabs[k].acts.length q3):=hcell 2 _ rfl
    have z3:wa.cell? ⟨b,o+k*5+3,none⟩=some (.int .i64 p.tabs[k].run.act):=hcell 3 _ rfl
    have z4:wa.cell? ⟨b,o+k*5+4,none⟩=some (.slice Q4 p.tabs[k].run.args.length q4):=hcell 4 _ rfl
    obtain ⟨wb,hwb,hsb,hbb,hcb,-⟩:=ak wa #[.slice Q1 p.tabs[k].keys.length q1,.slice Q2 p.tabs[k].kinds.length q2,.slice Q3 p.tabs[k].acts.length q3,.int .i64 p.tabs[k].run.act,.slice Q4 p.tabs[k].run.args.length q4] 108
    have hS:=aa (fun (W:World) (hW:Below wb.heap.size wb W)=>(⟨(s1.keep aS fun q hq=>(hW.cell (He hq hbb.size)).trans (hbb.cell hq)).more (B':=W.heap.size) aS (Hj hbb.size hW.size),(s2.keep bX fun q hq=>(hW.cell (He hq hbb.size)).trans (hbb.cell hq)).more (B':=W.heap.size) bX (Hj hbb.size hW.size),(s3.keep ai fun q hq=>(hW.cell (He hq hbb.size)).trans (hbb.cell hq)).more (B':=W.heap.size) ai (Hj hbb.size hW.size)⟩:Sl 1 ro W W.heap.size Q1 p.tabs[k].keys∧Sl 1 Ct W W.heap.size Q2 p.tabs[k].kinds∧Sl 1 bd W W.heap.size Q3 p.tabs[k].acts))
    have lk1:=s1.len
    generalize p.tabs[k]=t at*
    obtain ⟨t0,t1,t2,t3,t4⟩:=rB hcb
    have K:=ah hbb
    have la:wa.heap.size<wb.heap.size:=by omega
    have m1:w.heap.size<wb.heap.size:=by omega
    have m2:w.heap.size+1<wb.heap.size:=by omega
    have Y0:=(K.1 _ 0 l1).trans y0
    have Y1:=(K.1 _ 1 l1).trans y1
    have Y2:=(K.1 _ 2 l1).trans y2
    have Y3:=(K.1 _ 3 l1).trans y3
    have Y4:=(K.1 _ 4 l1).trans y4
    have Y5:=(K.1 _ 5 l1).trans y5
    have Y6:=(K.1 _ 6 l1).trans y6
    have Y7:=(K.1 _ 7 l1).trans y7
    have Y8:=(K.1 _ 8 l1).trans y8
    have Y9:=(K.1 _ 9 l1).trans y9
    have Y10:=(K.1 _ 10 l1).trans y10
    have Y11:=(K.1 _ 11 l1).trans y11
    have X0:=(K.1 _ 0 l2).trans x0
    have X1:=(K.1 _ 1 l2).trans x1
    have X2:=(K.1 _ 2 l2).trans x2
    have X3:=(K.1 _ 3 l2).trans x3
    have X4:=(K.1 _ 4 l2).trans x4
    have X5:=(K.1 _ 5 l2).trans x5
    have hbb':=aa hbb
    replace hsb:=aa hsb
    clear hcb hbb K hTb hcell s1 s2 s3 s4 hv hkk hn
    by_cases hlen:pats.length=t.keys.length
    ·have g5:((pats.length:Int) !=(t.keys.length:Int))=false:=by rw [hlen];exact bne_self_eq_false _
     have hv2:=aa (hv1.out.trans (by rw [decide_eq_true hlen,Hk]))
     have hR:=nF A1 A2 A3 A4 (some ⟨b,o,none⟩) A6 A7 A8 A9 A10 A11 A12 p c1 c2 c3 c4 c5 c6 c7 c8 c9 c10 c11 c12 Q3 P2 q3 d2 t.acts ⟨act,args⟩ wb (hP.out wb hbb'.out) (hS.out wb (Hf _ _)).2.2 (hNu.out wb hbb'.out)
     simp only at hR
     generalize dD p t.acts ⟨act,args⟩=R at hR hv2
     replace hR:=aa hR
     replace hlen:=aa hlen
     cases R with
     |false=>
      have hv3:=aa (hv2.out.trans (Hg _))
      go_wp2_with (go_at_call 57;refine hR.out.mono ?_;rintro e w3 ⟨rfl,hb3⟩)
      go_ret
      exact ⟨ad hv3.out.symm,hfin.out _ (hbb'.out.trans (hb3.mono (Hs la)))⟩
     |true=>
      have hv3:=aa (hv2.out.trans (Hk _))
      obtain ⟨f,hf⟩:∃ f:Nat→Pt→Int→Option Int,f=fun i x n=>fD (m7 p t i) (cB t i) x n:=⟨_,rfl⟩
      rw [←hf] at hv3
      replace hf:=aa (fun i x n=>congrFun (congrFun (congrFun hf i) x) n)
      go_wp2_with (go_at_call 57;refine hR.out.mono ?_;rintro e w3 ⟨rfl,hb3⟩;have kk:=ah hb3;have X1':=(kk.1 _ 1 m2).trans X1;have m2':=He m2 hb3.size;clear kk)
      go_loopw [6,7,8,9,10,11,12,59] (fun ln _ _ _ _ _ _ c wr=>∃ (j:Nat) (n:Int),j≤pats.length∧c=.int .i64 j∧ln=.int .i64 n∧Hid (cQ f 0 (pats.take j) 0=some n)∧Hid (Below wb.heap.size wb wr)) (fun _ _ _ _ _ _ _ c _=>pats.length-(intOf c).toNat)
      case atStart=>exact ⟨0,0,Hm _,rfl,rfl,aa (by simp [cQ]),aa hb3⟩
      case round=>
       clear hb3 X1' m2'
       obtain ⟨j,n,hj1,rfl,rfl,hfd,hbr⟩:=hrel
       have kr:=ah hbr.out
       have hzr:=hbr.out.size
       have Z1:=(kr.1 _ 1 m2).trans X1
       have Z2:=(kr.1 _ 2 m2).trans X2
       have m2r:=He m2 hzr
       by_cases hlt:j<pats.length
       focus
        have hlk:j<t.keys.length:=by rw [←hlen.out];exact hlt
        have hlkd:j<t.kinds.length:=by rw [hkl.out];exact hlk
        have hltz:(j:Int)<(pats.length:Int):=by omega
        have hltk:(j:Int)<(t.keys.length:Int):=by omega
        have hltkd:(j:Int)<(t.kinds.length:Int):=by omega
        obtain ⟨pb,po,hPA,hpb,u0,u1,u2,u3,okx⟩:=(hPt.out wr (hbb'.out.trans (hbr.out.mono (Hs la)))).pt hlt
        subst hPA
        obtain ⟨gb,og,hA2,hg,hkd⟩:=(hS.out wr hbr.out).2.1.byte hlkd
        subst hA2
        obtain ⟨cb,oc,A',c',hA1,hcb,hcd,hE⟩:=(hS.out wr hbr.out).1.code hlk
        subst hA1
        have hlo:=aa (fun (g:f j pats[j] n=none)=>show cQ f 0 pats 0=none from pw hlt hfd.out g)
        have hhi:=aa (fun (o:Int) (g:f j pats[j] n=some o)=>show cQ f 0 (pats.take (j+1)) 0=some o from pu hlt hfd.out g)
        have hfj:=hf.out j pats[j] n
        rw [Ey hlk,nH hlkd] at hfj
        have hE':=aa hE
        have hP':=aa (hP.out wr (hbb'.out.trans (hbr.out.mono (Hs la))))
        generalize hce:t.keys[j]=ce at*
        generalize pats[j]=x at*
        generalize t.kinds[j]=kd at*
        obtain ⟨wn,hwn,hsn,hbn,hcn,-⟩:=ak wr #[.int .u64 x.vh,.int .u64 x.vl,.int .u64 x.mh,.int .u64 x.ml] 63
        obtain ⟨b0,b1,b2,b3⟩:=wZ hcn
        have kn:=ah (hbr.out.trans (hbn.mono hzr))
        have kq:=ah hbn
        have m1':=m1
        have hX:∀ d os,Hid (Calls prog 58 #[.agg #[.slice A1 p.heads.length c1,.slice A2 p.metas.length c2,.slice A3 p.steps.length c3,.slice A4 p.acts.length c4,.slice (some ⟨b,o,none⟩) p.tabs.length c5,.slice A6 p.control.length c6,.slice A7 p.emit.length c7,.slice A8 p.nh.length c8,.slice A9 p.nf.length c9,.slice A10 p.nm.length c10,.slice A11 p.na.length c11,.slice A12 p.nt.length c12],.int .i64 (-1),.slice A' ce.length c'] (Ht (redrawn wn d) os) _):=fun d os=>aa (iu A1 A2 A3 A4 (some ⟨b,o,none⟩) A6 A7 A8 A9 A10 A11 A12 p c1 c2 c3 c4 c5 c6 c7 c8 c9 c10 c11 c12 (-1) ce A' c' _ ((hP'.out.below (hbn.trans ((below_regrown wn d os).mono hbn.size))).more (Hj hbn.size (below_regrown wn d os).size)) ((hE'.out.below bq (hbn.trans ((below_regrown wn d os).mono hbn.size))).more bq (Hj hbn.size (below_regrown wn d os).size)))
        have W0:=(kn.1 _ 0 m1').trans Y0
        have W1:=(kn.1 _ 1 m1').trans Y1
        have W2:=(kn.1 _ 2 m1').trans Y2
        have W3:=(kn.1 _ 3 m1').trans Y3
        have W4:=(kn.1 _ 4 m1').trans Y4
        have W5:=(kn.1 _ 5 m1').trans Y5
        have W6:=(kn.1 _ 6 m1').trans Y6
        have W7:=(kn.1 _ 7 m1').trans Y7
        have W8:=(kn.1 _ 8 m1').trans Y8
        have W9:=(kn.1 _ 9 m1').trans Y9
        have W10:=(kn.1 _ 10 m1').trans Y10
        have W11:=(kn.1 _ 11 m1').trans Y11
        have V0:=(kn.1 _ 0 la).trans t0
        have V1:=(kn.1 _ 1 la).trans t1
        have N0:=(kq.1 _ (oc+j) hcb).trans hcd
        have G0:=(kq.1 _ (og+j) hg).trans hkd
        have s0:wr.heap.size<wn.heap.size:=by omega
        have s1:=HB hg s0
        have s2:=HB hcb s0
        have s3:wa.heap.size<wn.heap.size:=by omega
        have s4:w.heap.size<wn.heap.size:=by omega
        have s5:w.heap.size+1<wn.heap.size:=by omega
        have hgw:=aE (show Below wn.heap.size wn wn from Hf _ _) (Hh _)
        have hbz:=aa (hbr.out.trans (hbn.mono hzr))
        have hzz:=hbz.out.size
        unfold Cw at hX
        generalize (fk p (-1) ce).getD 0=y at hX hfj
        generalize (fk p (-1) ce).isSome=is at hX
        have hLn:=aa (fun W=>Bd x y W okx)
        have hMy:=aa (fun W=>sC x y W okx)
        unfold fD at hfj
        generalize iS y x=LN at hLn hfj
        obtain ⟨ln,ls⟩:=LN
        simp only at hLn hfj
        generalize el y x=m at hMy hfj
        clear kr kn kq hcd hkd hE hE' hP' hbn hcn hce okx hfd
        replace hsn:=aa hsn
        generalize f j x n=F at hfj hlo hhi
        go_wp2_with fail
        refine bV ?_
        repeat (any_goals (first|go_big_quiet_step ((go_at_call 58;with_reducible exact Hi (hX _ _).out))|quiet_step ((go_at_call 58;with_reducible exact Hi (hX _ _).out))))
        refine wpQuiet_nil ?_
        intro w1 hw1
        replace hw1:=ac hw1
        have hb':=hw1
        clear hgw W0 W1 W2 W3 W4 W5 W6 W7 W8 W9 W10 W11 V0 N0 hX s2 s4 s5
        have kk:=ah hb'
        replace b0:=(kk.1 _ 0 s0).trans b0
        replace b1:=(kk.1 _ 1 s0).trans b1
        replace b2:=(kk.1 _ 2 s0).trans b2
        replace b3:=(kk.1 _ 3 s0).trans b3
        replace V1:=(kk.1 _ 1 s3).trans V1
        replace G0:=(kk.1 _ (og+j) s1).trans G0
        replace s0:=He s0 hb'.size
        replace s1:=He s1 hb'.size
        replace s3:=He s3 hb'.size
        replace hbz:=aa (hbz.out.trans (hb'.mono hzz))
        replace hzz:=Hj hzz hb'.size
        clear kk hb' hw1
        cases m
        have hF:F=none:=by rw [hfj];simp
        rotate_right
        focus
         simp only [Bool.true_eq_false,if_false] at hfj
         by_cases e1:kd=1
         focus
          have c1:(kd==1)=true:=beq_iff_eq.2 e1
          have c2:(kd==2)=false:=by rw [e1];rfl
          have c3:(kd=1)=True:=eq_true e1
          have c4:(kd=2)=False:=eq_false (by omega)
          clear e1
          by_cases e2:ln<y
          have c5:decide (ln<y)=true:=decide_eq_true e2
          have hF:F=none:=by rw [hfj];simp [c3,e2]
          rotate_right
          focus
           have c5:decide (ln<y)=false:=decide_eq_false e2
           have hF:F=some n:=by rw [hfj];simp [c3,c4,e2]
           replace hhi:=aa (hhi.out _ hF)
           clear hfj hF hlo
           go_wp2_with (first|(go_at_call 59;refine (hLn.out _).mono ?_;rintro e w' ⟨rfl,hb'⟩;have kk:=ah hb';replace b0:=(kk.1 _ 0 s0).trans b0;replace b1:=(kk.1 _ 1 s0).trans b1;replace b2:=(kk.1 _ 2 s0).trans b2;replace b3:=(kk.1 _ 3 s0).trans b3;replace V1:=(kk.1 _ 1 s3).trans V1;replace G0:=(kk.1 _ (og+j) s1).trans G0;replace s0:=He s0 hb'.size;replace s1:=He s1 hb'.size;replace s3:=He s3 hb'.size;replace hbz:=aa (hbz.out.trans (hb'.mono hzz));replace hzz:=Hj hzz hb'.size;clear kk hb')|(go_at_call 60;refine (hMy.out _).mono ?_;rintro e w' ⟨rfl,hb'⟩;have kk:=ah hb';replace b0:=(kk.1 _ 0 s0).trans b0;replace b1:=(kk.1 _ 1 s0).trans b1;replace b2:=(kk.1 _ 2 s0).trans b2;replace b3:=(kk.1 _ 3 s0).trans b3;replace V1:=(kk.1 _ 1 s3).trans V1;replace G0:=(kk.1 _ (og+j) s1).trans G0;replace s0:=He s0 hb'.size;replace s1:=He s1 hb'.size;replace s3:=He s3 hb'.size;replace hbz:=aa (hbz.out.trans (hb'.mono hzz));replace hzz:=Hj hzz hb'.size;clear kk hb'))
           go_roundw
           case rel=>exact ⟨j+1,n,by omega,by go_num,rfl,hhi,hbz⟩
           case measure=>simp [intOf];omega
         rotate_right
         focus
          have c1:(kd==1)=false:=beq_eq_false_iff_ne.2 e1
          have c3:(kd=1)=False:=eq_false e1
          by_cases e2:kd=2
          focus
           have c2:(kd==2)=true:=beq_iff_eq.2 e2
           have c4:(kd=2)=True:=eq_true e2
           clear e1 e2
           cases ls
           have hF:F=none:=by rw [hfj];simp [c3,c4]
           rotate_right
           focus
            have hF:F=some ln:=by rw [hfj];simp [c3,c4]
            replace hhi:=aa (hhi.out _ hF)
            clear hfj hF hlo
            go_wp2_with (first|(go_at_call 59;refine (hLn.out _).mono ?_;rintro e w' ⟨rfl,hb'⟩;have kk:=ah hb';replace b0:=(kk.1 _ 0 s0).trans b0;replace b1:=(kk.1 _ 1 s0).trans b1;replace b2:=(kk.1 _ 2 s0).trans b2;replace b3:=(kk.1 _ 3 s0).trans b3;replace V1:=(kk.1 _ 1 s3).trans V1;replace G0:=(kk.1 _ (og+j) s1).trans G0;replace s0:=He s0 hb'.size;replace s1:=He s1 hb'.size;replace s3:=He s3 hb'.size;replace hbz:=aa (hbz.out.trans (hb'.mono hzz));replace hzz:=Hj hzz hb'.size;clear kk hb')|(go_at_call 60;refine (hMy.out _).mono ?_;rintro e w' ⟨rfl,hb'⟩;have kk:=ah hb';replace b0:=(kk.1 _ 0 s0).trans b0;replace b1:=(kk.1 _ 1 s0).trans b1;replace b2:=(kk.1 _ 2 s0).trans b2;replace b3:=(kk.1 _ 3 s0).trans b3;replace V1:=(kk.1 _ 1 s3).trans V1;replace G0:=(kk.1 _ (og+j) s1).trans G0;replace s0:=He s0 hb'.size;replace s1:=He s1 hb'.size;replace s3:=He s3 hb'.size;replace hbz:=aa (hbz.out.trans (hb'.mono hzz));replace hzz:=Hj hzz hb'.size;clear kk hb'))
            go_roundw
            case rel=>exact ⟨j+1,ln,by omega,by go_num,rfl,hhi,hbz⟩
            case measure=>simp [intOf];omega
          rotate_right
          focus
           have c2:(kd==2)=false:=beq_eq_false_iff_ne.2 e2
           have c4:(kd=2)=False:=eq_false e2
           clear e1 e2
           have hF:F=some n:=by rw [hfj];simp [c3,c4]
           replace hhi:=aa (hhi.out _ hF)
           clear hfj hF hlo
           go_wp2_with (first|(go_at_call 59;refine (hLn.out _).mono ?_;rintro e w' ⟨rfl,hb'⟩;have kk:=ah hb';replace b0:=(kk.1 _ 0 s0).trans b0;replace b1:=(kk.1 _ 1 s0).trans b1;replace b2:=(kk.1 _ 2 s0).trans b2;replace b3:=(kk.1 _ 3 s0).trans b3;replace V1:=(kk.1 _ 1 s3).trans V1;replace G0:=(kk.1 _ (og+j) s1).trans G0;replace s0:=He s0 hb'.size;replace s1:=He s1 hb'.size;replace s3:=He s3 hb'.size;replace hbz:=aa (hbz.out.trans (hb'.mono hzz));replace hzz:=Hj hzz hb'.size;clear kk hb')|(go_at_call 60;refine (hMy.out _).mono ?_;rintro e w' ⟨rfl,hb'⟩;have kk:=ah hb';replace b0:=(kk.1 _ 0 s0).trans b0;replace b1:=(kk.1 _ 1 s0).trans b1;replace b2:=(kk.1 _ 2 s0).trans b2;replace b3:=(kk.1 _ 3 s0).trans b3;replace V1:=(kk.1 _ 1 s3).trans V1;replace G0:=(kk.1 _ (og+j) s1).trans G0;replace s0:=He s0 hb'.size;replace s1:=He s1 hb'.size;replace s3:=He s3 hb'.size;replace hbz:=aa (hbz.out.trans (hb'.mono hzz));replace hzz:=Hj hzz hb'.size;clear kk hb'))
           go_roundw
           case rel=>exact ⟨j+1,n,by omega,by go_num,rfl,hhi,hbz⟩
           case measure=>simp [intOf];omega
       rotate_right
       focus
        have hje:j=pats.length:=by omega
        subst hje
        rw [HZ] at hfd
        rw [hfd.out] at hv3
        by_cases he:len=n
        have hv4:=aa (hv3.out.trans (decide_eq_true (by rw [he])))
        have q:(len==n)=true:=by rw [beq_iff_eq];exact he
        rotate_right
        have hv4:=aa (hv3.out.trans (decide_eq_false (by intro g;injection g with g;exact he g.symm)))
        have q:(len==n)=false:=by rw [beq_eq_false_iff_ne];exact he
        all_goals
         clear hv3 he
         go_wp2
         go_ret
         exact ⟨ad hv4.out.symm,hfin.out _ (hbb'.out.trans (hbr.out.mono (Hs la)))⟩
       all_goals
        replace hlo:=aa (hlo.out hF)
        have hv4:=aa (hv3.out.trans (decide_eq_false (by rw [hlo.out];simp)))
        clear hfj hF hhi hlo
        go_wp2_with (first|(go_at_call 59;refine (hLn.out _).mono ?_;rintro e w' ⟨rfl,hb'⟩;have kk:=ah hb';replace b0:=(kk.1 _ 0 s0).trans b0;replace b1:=(kk.1 _ 1 s0).trans b1;replace b2:=(kk.1 _ 2 s0).trans b2;replace b3:=(kk.1 _ 3 s0).trans b3;replace V1:=(kk.1 _ 1 s3).trans V1;replace G0:=(kk.1 _ (og+j) s1).trans G0;replace s0:=He s0 hb'.size;replace s1:=He s1 hb'.size;replace s3:=He s3 hb'.size;replace hbz:=aa (hbz.out.trans (hb'.mono hzz));replace hzz:=Hj hzz hb'.size;clear kk hb')|(go_at_call 60;refine (hMy.out _).mono ?_;rintro e w' ⟨rfl,hb'⟩;have kk:=ah hb';replace b0:=(kk.1 _ 0 s0).trans b0;replace b1:=(kk.1 _ 1 s0).trans b1;replace b2:=(kk.1 _ 2 s0).trans b2;replace b3:=(kk.1 _ 3 s0).trans b3;replace V1:=(kk.1 _ 1 s3).trans V1;replace G0:=(kk.1 _ (og+j) s1).trans G0;replace s0:=He s0 hb'.size;replace s1:=He s1 hb'.size;replace s3:=He s3 hb'.size;replace hbz:=aa (hbz.out.trans (hb'.mono hzz));replace hzz:=Hj hzz hb'.size;clear kk hb'))
        go_ret
        exact ⟨ad hv4.out.symm,hfin.out _ (hbb'.out.trans (hbz.out.mono (Hs la)))⟩
    ·have g5:((pats.length:Int) !=(t.keys.length:Int))=true:=by rw [bne_iff_ne];omega
     have hv2:=aa (hv1.out.trans (by rw [decide_eq_false hlen,Hg]))
     clear hlen
     go_wp2
     go_ret
     exact ⟨ad hv2.out.symm,hfin.out _ hbb'.out⟩
   ·have g4:decide ((65536:Int)<prio)=true:=decide_eq_true (by omega)
    have hv1:=aa (hv.out.trans (by rw [pE hp1,Hg]))
    go_wp2
    go_ret
    exact ⟨ad hv1.out.symm,hfin.out _ (Hf _ _)⟩
  ·have g3:decide (prio<0)=true:=decide_eq_true (by omega)
   have hv1:=aa (hv.out.trans (by rw [pD hp0,Hg]))
   go_wp2
   go_ret
   exact ⟨ad hv1.out.symm,hfin.out _ (Hf _ _)⟩
 rotate_right
 focus
  have hv:=aa (AO (e:=⟨tab,pats,len,prio,⟨act,args⟩⟩) e1).1
  have e4:¬(0≤tab∧tab<(p.tabs.length:Int)):=by
   rintro ⟨a,b⟩
   obtain ⟨k,rfl⟩:=Hv a
   rw [iQ k (by omega)] at e1
   cases e1
  by_cases h0:tab<0
  have g1:decide (tab<0)=true:=decide_eq_true h0
  rotate_right
  have g1:decide (tab<0)=false:=decide_eq_false h0
  have g2:decide ((p.tabs.length:Int)≤tab)=true:=decide_eq_true (by omega)
 all_goals
  clear e4 e1 e2 e3
  go_wp2
  go_ret
  exact ⟨ad hv.out.symm,hfin.out _ (Hf _ _)⟩
theorem ti (fid:Nat) (lb:Array Value) (eg:∀ args w,(callFunc fid args).run prog w=.ok (.enter fid args) w) (q:aR→Bool) (A:Option Addr) (cap:Nat) (xs:List aR) (w:World) (h:Sl 6 fT w w.heap.size A xs) (hf:Dk fT w.heap.size fid lb q xs w):
  Calls prog 56 #[.slice A xs.length cap,.func (.func fid) #[] lb] w fun e w'=>e=.returned (.int .i64 (lQ q xs))∧Below w.heap.size w w':=by
 have hl:=h.len
 replace hf:=aa hf
 go_enter func56,ntmps56
 go_wp2
 go_loopw [5,8] (fun _ i wr=>∃ k:Nat,k≤xs.length∧i=.int .i64 k∧Hid ((xs.take k).any q=false)∧Hid (Below w.heap.size w wr)) (fun _ i _=>xs.length-(intOf i).toNat)
 case atStart=>exact ⟨0,Hm _,rfl,aa (by simp),aa (Hf _ _)⟩
 case round=>
  obtain ⟨k,hk,rfl,hc,hbr⟩:=hrel
  by_cases hlt:k<xs.length
  ·have hltz:(k:Int)<(xs.length:Int):=by omega
   obtain ⟨b,o,ecs,rfl,hb,hn,hcell,hre⟩:=h.2 k _ (Hn hlt)
   have hcall:=hf.out xs[k] wr ecs (Ho _) hbr.out (bh.more (bh.keep hre fun q hq=>hbr.out.cell hq) hbr.out.size)
   have hcw:=fun j u hu=>(hbr.out.cell (p:=⟨b,o+k*6+j,none⟩) hb).trans (hcell j u hu)
   obtain ⟨P1,d1,P2,d2,rfl,hs1,hs2⟩:=hre
   have x0:wr.cell? ⟨b,o+k*6,none⟩=_:=hcw 0 _ rfl
   have x1:wr.cell? ⟨b,o+k*6+1,none⟩=_:=hcw 1 _ rfl
   have x2:wr.cell? ⟨b,o+k*6+2,none⟩=_:=hcw 2 _ rfl
   have x3:wr.cell? ⟨b,o+k*6+3,none⟩=_:=hcw 3 _ rfl
   have x4:wr.cell? ⟨b,o+k*6+4,none⟩=_:=hcw 4 _ rfl
   have x5:wr.cell? ⟨b,o+k*6+5,none⟩=_:=hcw 5 _ rfl
   clear h hcell hcw
   cases hp:q xs[k] with
   |true=>
    rw [hp] at hcall
    have hv:=aa (jJ hlt hc.out hp)
    clear hp
    replace hcall:=aa hcall
    go_wp2_with (go_at_fn fid;refine hcall.out.mono ?_;rintro e w' ⟨rfl,hb1⟩)
    go_ret
    exact ⟨aq hv.out.symm,hbr.out.trans (hb1.mono hbr.out.size)⟩
   |false=>
    rw [hp] at hcall
    have hv:=aa (cw hlt hc.out hp)
    clear hp
    replace hcall:=aa hcall
    go_wp2_with (go_at_fn fid;refine hcall.out.mono ?_;rintro e w' ⟨rfl,hb1⟩)
    go_roundw
    case rel=>exact ⟨k+1,by omega,by go_num,hv,aa (hbr.out.trans (hb1.mono hbr.out.size))⟩
    case measure=>simp [intOf];omega
  ·have hv:=aa (jK (dp hk hlt hc.out))
   go_wp2
   go_ret
   exact ⟨aq hv.out.symm,hbr.out⟩
theorem nZ (fid:Nat) (lb:Array Value) (eg:∀ args w,(callFunc fid args).run prog w=.ok (.enter fid args) w) (q:aR→Bool) (A:Option Addr) (cap:Nat) (xs:List aR) (w:World) (h:Sl 6 fT w w.heap.size A xs) (hf:Dk fT w.heap.size fid lb q xs w):
  Calls prog 19 #[.slice A xs.length cap,.func (.func fid) #[] lb] w fun e w'=>e=.returned (.bool (xs.any q))∧Below w.heap.size w w':=by
 have hv:=aa (eB q xs)
 replace hf:=aa hf
 go_enter func19,ntmps19
 go_wp2_with (go_at_call 56;refine (ti fid lb eg q A cap xs _ h hf.out).mono ?_;rintro e w' ⟨rfl,hb⟩)
 go_ret
 exact ⟨ad hv.out,hb⟩
theorem tj:∀ args w,(callFunc 20 args).run prog w=.ok (.enter 20 args) w:=enters_of func20 (by kernel_rfl) rfl
theorem vc (A1 A2 A3 A4 A5 A6 A7 A8 A9 A10 A11 A12:Option Addr) (p:Lp) (c1 c2 c3 c4 c5 c6 c7 c8 c9 c10 c11 c12:Nat) (e:aR) (P1 P2:Option Addr) (d1 d2 x:Nat) (w:World) (h:cJ w w.heap.size A1 A2 A3 A4 A5 A6 A7 A8 A9 A10 A11 A12 p) (hkk:∀ t∈p.tabs,t.kinds.length=t.keys.length) (lx:x<w.heap.size) (Y:∀ i,w.cell? ⟨x,i,none⟩=(#[.slice A1 p.heads.length c1,.slice A2 p.metas.length c2,.slice A3 p.steps.length c3,.slice A4 p.acts.length c4,.slice A5 p.tabs.length c5,.slice A6 p.control.length c6,.slice A7 p.emit.length c7,.slice A8 p.nh.length c8,.slice A9 p.nf.length c9,.slice A10 p.nm.length c10,.slice A11 p.na.length c11,.slice A12 p.nt.length c12]:Array Value)[i]?) (h1:Sl 4 mR w w.heap.size P1 e.pats) (h2:Sl 2 ke w w.heap.size P2 e.run.args):
  Calls prog 20 #[sf P1 d1 P2 d2 e,.pointer (some ⟨x,0,none⟩)] w fun r w'=>r=.returned (.bool (!gm p e))∧Below w.heap.size w w':=by
 obtain ⟨wa,hwa,hsa,hba,hca,-⟩:=ak w #[.int .i64 e.tab,.slice P1 e.pats.length d1,.int .i64 e.len,.int .i64 e.prio,.int .i64 e.run.act,.slice P2 e.run.args.length d2] 57
 obtain ⟨b0,b1,b2,b3,b4,b5⟩:=iK hca
 obtain ⟨y0,y1,y2,y3,y4,y5,y6,y7,y8,y9,y10,y11⟩:=aC fun i=>(hba.cell (p:=⟨x,i,none⟩) lx).trans (Y i)
 have hC:=aa (yM A1 A2 A3 A4 A5 A6 A7 A8 A9 A10 A11 A12 p c1 c2 c3 c4 c5 c6 c7 c8 c9 c10 c11 c12 e P1 P2 d1 d2 wa ((h.below hba).more hba.size) hkk ((h1.below aL hba).more aL hba.size) ((h2.below aw hba).more aw hba.size))
 have hl:=He lx hba.size
 have hl2:w.heap.size<wa.heap.size:=by omega
 replace hba:=aa hba
 replace hsa:=aa hsa
 clear hca Y h h1 h2
 go_enter func20,ntmps20
 go_wp2_with (go_at_call 21;refine hC.out.mono ?_;rintro r w3 ⟨rfl,hb3⟩)
 go_ret
 exact ⟨rfl,hba.out.trans (hb3.mono hba.out.size)⟩
theorem BI (A1 A2 A3 A4 A5 A6 A7 A8 A9 A10 A11 A12:Option Addr) (p:Lp) (c1 c2 c3 c4 c5 c6 c7 c8 c9 c10 c11 c12:Nat) (A:Option Addr) (cap:Nat) (l:List aR) (x:Nat) (w:World) (h:cJ w w.heap.size A1 A2 A3 A4 A5 A6 A7 A8 A9 A10 A11 A12 p) (hkk:∀ t∈p.tabs,t.kinds.length=t.keys.length) (hl:Sl 6 fT w w.heap.size A l) (lx:x<w.heap.size) (Y:∀ i,w.cell? ⟨x,i,none⟩=(#[.slice A1 p.heads.length c1,.slice A2 p.metas.length c2,.slice A3 p.steps.length c3,.slice A4 p.acts.length c4,.slice A5 p.tabs.length c5,.slice A6 p.control.length c6,.slice A7 p.emit.length c7,.slice A8 p.nh.length c8,.slice A9 p.nf.length c9,.slice A10 p.nm.length c10,.slice A11 p.na.length c11,.slice A12 p.nt.length c12]:Array Value)[i]?):
  Calls prog 19 #[.slice A l.length cap,.func (.func 20) #[] #[.pointer (some ⟨x,0,none⟩)]] w fun e w'=>e=.returned (.bool (!l.all (gm p)))∧Below w.heap.size w w':=by
 rw [←jL]
 refine nZ 20 _ tj (fun s=> !gm p s) A cap l w hl fun s W cs _ hW hr=> ?_
 obtain ⟨P1,d1,P2,d2,rfl,hs1,hs2⟩:=hr
 exact vc A1 A2 A3 A4 A5 A6 A7 A8 A9 A10 A11 A12 p c1 c2 c3 c4 c5 c6 c7 c8 c9 c10 c11 c12 s P1 P2 d1 d2 x W ((h.below hW).more hW.size) hkk (He lx hW.size) (fun i=>(hW.cell (p:=⟨x,i,none⟩) lx).trans (Y i)) hs1 hs2
theorem vd {p:Lp} (h:bW p=true):∀ t∈p.tabs,t.kinds.length=t.keys.length:=fun t ht=>(dr ((ck h).2.2 t ht)).2.2.1
theorem tm (A1 A2 A3 A4 A5 A6 A7 A8 A9 A10 A11 A12:Option Addr) (p:Lp) (c1 c2 c3 c4 c5 c6 c7 c8 c9 c10 c11 c12:Nat) (A:Option Addr) (cap:Nat) (l:List aR) (w:World) (h:cJ w w.heap.size A1 A2 A3 A4 A5 A6 A7 A8 A9 A10 A11 A12 p) (hl:Sl 6 fT w w.heap.size A l):
  Calls prog 7 #[.agg #[.slice A1 p.heads.length c1,.slice A2 p.metas.length c2,.slice A3 p.steps.length c3,.slice A4 p.acts.length c4,.slice A5 p.tabs.length c5,.slice A6 p.control.length c6,.slice A7 p.emit.length c7,.slice A8 p.nh.length c8,.slice A9 p.nf.length c9,.slice A10 p.nm.length c10,.slice A11 p.na.length c11,.slice A12 p.nt.length c12],.slice A l.length cap] w fun e w'=>e=.returned (.bool (aV p l))∧Below w.heap.size w w':=by
 have hll:=hl.len
 obtain ⟨wz,hwz,hsz,hbz,hcz,-⟩:=ak w #[.slice A1 p.heads.length c1,.slice A2 p.metas.length c2,.slice A3 p.steps.length c3,.slice A4 p.acts.length c4,.slice A5 p.tabs.length c5,.slice A6 p.control.length c6,.slice A7 p.emit.length c7,.slice A8 p.nh.length c8,.slice A9 p.nf.length c9,.slice A10 p.nm.length c10,.slice A11 p.na.length c11,.slice A12 p.nt.length c12] 33
 have lx:w.heap.size<wz.heap.size:=by omega
 have hP:=fun (W:World) (hW:Below wz.heap.size wz W)=>((h.below hbz).below (hW.mono hbz.size)).more (Hj hbz.size hW.size)
 have hM:=aa (jN A1 A2 A3 A4 A5 A6 A7 A8 A9 A10 A11 A12 p c1 c2 c3 c4 c5 c6 c7 c8 c9 c10 c11 c12 wz (hP wz (Hf _ _)))
 have hC:=aa (fun (hm:bW p=true) (W:World) (hW:Below wz.heap.size wz W)=>BI A1 A2 A3 A4 A5 A6 A7 A8 A9 A10 A11 A12 p c1 c2 c3 c4 c5 c6 c7 c8 c9 c10 c11 c12 A cap l w.heap.size W (hP W hW) (vd hm) (((hl.below bh hbz).below bh (hW.mono hbz.size)).more bh (Hj hbz.size hW.size)) (He lx hW.size) (fun i=>(hW.cell (p:=⟨w.heap.size,i,none⟩) lx).trans (hcz i)))
 have hv:=aa (show aV p l=(bW p&&(decide (l.length≤64)&&l.all (gm p))) from rfl)
 have hgo:=aa (fun (W:World) (hW:Below wz.heap.size wz W)=>hbz.trans (hW.mono hbz.size))
 obtain ⟨y0,y1,y2,y3,y4,y5,y6,y7,y8,y9,y10,y11⟩:=aC hcz
 replace hsz:=aa hsz
 clear hcz hbz h hl hP
 cases hm:bW p
 rw [hm] at hM hv
 replace hv:=aa (hv.out.trans (Hg _))
 clear hC hm
 rotate_right
 focus
  replace hC:=aa (hC.out hm)
  rw [hm] at hM hv
  replace hv:=aa (hv.out.trans (Hk _))
  clear hm
  by_cases h64:l.length≤64
  focus
   have d1:decide ((l.length:Int)≤64)=true:=decide_eq_true (by omega)
   have d2:decide (l.length≤64)=true:=decide_eq_true h64
   replace hv:=aa (hv.out.trans (by rw [d2,Hk]))
   generalize l.all (gm p)=R at hC hv
   go_enter func7,ntmps7
   go_wp2_with (first|(go_at_call 18;refine hM.out.mono ?_;rintro e w1 ⟨rfl,hb1⟩)|(go_at_call 19;refine (hC.out _ hb1).mono ?_;rintro e w2 ⟨rfl,hb2⟩))
   go_ret
   exact ⟨ad (by rw [hv.out]),hgo.out _ (hb1.trans (hb2.mono hb1.size))⟩
  rotate_right
  have d1:decide ((l.length:Int)≤64)=false:=decide_eq_false (by omega)
  have d2:decide (l.length≤64)=false:=decide_eq_false h64
  replace hv:=aa (hv.out.trans (by rw [d2,Hg]))
  clear hC
 all_goals
  go_enter func7,ntmps7
  go_wp2_with (go_at_call 18;refine hM.out.mono ?_;rintro e w1 ⟨rfl,hb1⟩)
  go_ret
  exact ⟨ad hv.out.symm,hgo.out _ hb1⟩
@[reducible] def GU (n:E2) (A1 A2 A3:Option Addr) (c1 c2 c3:Nat):Value:=.agg #[.slice A1 n.sw.length c1,.slice A2 n.ports.length c2,.slice A3 n.links.length c3]
def lR (w:World) (B:Nat) (A1 A2 A3:Option Addr) (n:E2):Prop:=Sl 1 bZ w B A1 n.sw∧Sl 1 (oD 1 bd) w B A2 n.ports∧Sl 4 DR w B A3 n.links
theorem lR.keep {w w':World} {B:Nat} {A1 A2 A3:Option Addr} {n:E2} (h:lR w B A1 A2 A3 n) (hk:∀ p:Addr,p.block<B→w'.cell? p=w.cell? p):lR w' B A1 A2 A3 n:=
 ⟨h.1.keep av hk,h.2.1.keep (eE ai) hk,h.2.2.keep ry hk⟩
theorem lR.more {w:World} {B B':Nat} {A1 A2 A3:Option Addr} {n:E2} (h:lR w B A1 A2 A3 n) (hB:B≤B'):lR w B' A1 A2 A3 n:=
 ⟨h.1.more av hB,h.2.1.more (eE ai) hB,h.2.2.more ry hB⟩
theorem lR.below {w w':World} {B:Nat} {A1 A2 A3:Option Addr} {n:E2} (h:lR w B A1 A2 A3 n) (hb:Below B w w'):lR w' B A1 A2 A3 n:=h.keep fun _ hp=>hb.cell hp
theorem lR.alloc {w:World} {B:Nat} {A1 A2 A3:Option Addr} {n:E2} (h:lR w B A1 A2 A3 n) (hB:B≤w.heap.size) (o:Obj):lR (w.alloc o) B A1 A2 A3 n:=h.keep fun p hp=>World.cell?_alloc_lt w o p (by omega)


section
open Go.RowKit Go.Lib
def cI (p:Lp) (sw:List ByteArray) (l:List (List aR)) (i:Nat):List UInt8:=((sw.zip l).drop i).flatMap (fun x=>x.2.flatMap (bm p x.1))
def hZ (p:Lp) (nm:ByteArray) (es:List aR) (j:Nat):List UInt8:=(es.drop j).flatMap (bm p nm)
theorem pX {p:Lp} {sw:List ByteArray} {l:List (List aR)} {i:Nat} (h:sw.length≤i):cI p sw l i= []:=by
 unfold cI
 rw [List.drop_eq_nil_of_le (by rw [List.length_zip];omega)];rfl
theorem pY {p:Lp} {sw:List ByteArray} {l:List (List aR)} {i:Nat} (h:i<sw.length) (h':i<l.length):cI p sw l i=hZ p sw[i] l[i] 0++cI p sw l (i+1):=by
 unfold cI hZ
 rw [H4 (by rw [List.length_zip];omega),H7,List.getElem_zip]
 rfl
theorem pZ {p:Lp} {nm:ByteArray} {es:List aR} {j:Nat} (h:es.length≤j):hZ p nm es j= []:=by
 unfold hZ
 rw [List.drop_eq_nil_of_le h];rfl
theorem p8 {p:Lp} {nm:ByteArray} {es:List aR} {j:Nat} (h:j<es.length):hZ p nm es j=bm p nm es[j]++hZ p nm es (j+1):=by
 unfold hZ
 rw [H4 h,H7]
theorem tn {f:List aR→Bool} {p:Lp} {sw:List ByteArray} {l:List (List aR)} {i:Nat} (hi:i<sw.length) (h:fe f sw l i=false):cR f p sw l= []:=by
 unfold cR
 split
 ·rfl
 ·rw [if_neg]
  intro ha
  have:=(aF _ _).1 ha i hi
  rw [h] at this
  cases this
theorem kI {f:List aR→Bool} {p:Lp} {sw:List ByteArray} {l:List (List aR)} (hl:l.length=sw.length) (h:∀ i,i<sw.length→fe f sw l i=true):cR f p sw l=cI p sw l 0:=by
 unfold cR cI
 rw [if_neg (by omega),if_pos ((aF _ _).2 h)];rfl
theorem Dn {l:List ByteArray} {k:Nat} (hk:k<l.length):(aU l l[k]<(k:Int))↔l[k]∈l.take k:=by
 have h1:=mE hk
 have h2:=rA hk
 constructor
 ·intro h
  by_cases hm:l[k]∈l.take k
  ·exact hm
  ·have:=h1.2 hm;omega
 ·intro h
  by_cases hm:aU l l[k]<(k:Int)
  ·exact hm
  ·exact absurd h (h1.1 (by omega))
structure tp (w W:World) (b:Nat) (C:Array Value) (l:List UInt8):Prop where
 bel:Below w.heap.size w W
 bl:DY W b l
 gb:w.heap.size<b
 lt:b<W.heap.size
 pb:∀ i,W.cell? ⟨w.heap.size,i,none⟩=C[i]?
theorem DY.belowK {w w':World} {b:Nat} {l:List UInt8} (h:DY w b l) (hb:Below w.heap.size w w') (hlt:b<w.heap.size):DY w' b l:=by
 have key:∀ p,Go.Lib.BuilderAt 75 5 b b p (Go.Lib.byteCells l) w→Go.Lib.BuilderAt 75 5 b b p (Go.Lib.byteCells l) w':=fun p hp=>by
  obtain ⟨h1,v,h2,h3,h4⟩:=hp
  exact ⟨h1,v,(hb.block b hlt).trans h2,dX h3 hb (Hh _),h4⟩
 rcases h with h|h
 ·exact .inl (key _ h)
 ·exact .inr (key _ h)
theorem tp.step {w W W':World} {b:Nat} {C:Array Value} {l l':List UInt8} (h:tp w W b C l) (hb:Below b W W') (hl:DY W' b l'):tp w W' b C l':=
 ⟨h.bel.trans (hb.mono (Hs h.gb)),hl,h.gb,He h.lt hb.size,fun i=>(hb.cell (p:=⟨w.heap.size,i,none⟩) h.gb).trans (h.pb i)⟩
theorem tp.below {w W W':World} {b:Nat} {C:Array Value} {l:List UInt8} (h:tp w W b C l) (hb:Below W.heap.size W W'):tp w W' b C l:=
 h.step (hb.mono (Hs h.lt)) (h.bl.belowK hb h.lt)
theorem tp.write {w W:World} {b:Nat} {C:Array Value} {l:List UInt8} (s:List UInt8) (h:tp w W b C l) (hl:l.length+s.length≤140737488355328):
  Calls prog 31 #[.pointer (some ⟨b,0,none⟩),.string ⟨s.toArray⟩] W fun e w'=>(∃ v,e=.returned v)∧tp w w' b C (l++s):=
 (C5 b l ⟨s.toArray⟩ W h.bl (by simpa [ByteArray.size] using hl) (Hs h.lt)).mono fun e w' g=>⟨⟨_,g.1⟩,h.step g.2.2 (by simpa using g.2.1)⟩
theorem tp.str {w W:World} {b:Nat} {C:Array Value} {l:List UInt8} (h:tp w W b C l):
  Calls prog 33 #[.pointer (some ⟨b,0,none⟩)] W fun e w'=>e=.returned (.string ⟨l.toArray⟩)∧Below w.heap.size w w':=
 (AY b l W h.bl (Hs h.lt)).mono fun e w' g=>⟨g.1,h.bel.trans (g.2.mono (Hs h.gb))⟩
theorem yN {p:Lp} {sw:List ByteArray} {l:List (List aR)} {n m q:Nat} (h:∀ x∈sw.zip l,∀ e∈x.2,(bm p x.1 e).length≤n) (hm:∀ x∈l,x.length≤m) (hq:sw.length≤q):(cI p sw l 0).length≤q*(m*n):=by
 have key:∀ (es:List aR) (nm:ByteArray),(∀ e∈es,(bm p nm e).length≤n)→(es.flatMap (bm p nm)).length≤es.length*n:=by
  intro es nm
  induction es with
  |nil=>intro _;simp
  |cons e es ih=>
   intro hh
   have h1:=hh e HE
   have h2:=ih fun x hx=>hh x (HI _ hx)
   rw [H7,Hu,Hp,Nat.succ_mul]
   omega
 have key2:∀ (L:List (ByteArray×List aR)),(∀ x∈L,∀ e∈x.2,(bm p x.1 e).length≤n)→(∀ x∈L,x.2.length≤m)→(L.flatMap (fun x=>x.2.flatMap (bm p x.1))).length≤L.length*(m*n):=by
  intro L
  induction L with
  |nil=>intro _ _;simp
  |cons x L ih=>
   intro h1 h2
   have a1:=key x.2 x.1 (h1 x HE)
   have a2:=Ib n (h2 x HE)
   have a3:=ih (fun y hy=>h1 y (HI _ hy)) (fun y hy=>h2 y (HI _ hy))
   rw [H7,Hu,Hp,Nat.succ_mul]
   omega
 have h3:=key2 (sw.zip l) h (fun x hx=>hm _ (List.of_mem_zip hx).2)
 have h4:(sw.zip l).length≤q:=by rw [List.length_zip];omega
 exact Hj h3 (Ib _ h4)
end
theorem tr {p:Lp} {act:Int} {st st':List Int} {n:Nd} (h:cY p act st n=some st') (hs:∀ x∈st,aj x=true):∀ x∈st',aj x=true:=by
 unfold cY at h
 cases hd:cX p act st n with
 |none=>rw [hd] at h;cases h
 |some y=>
  obtain ⟨w,s⟩:=y
  rw [hd] at h
  simp only at h
  split at h
  ·rename_i hc
   cases h
   have hsub:∀ x∈s,x∈st:=by
    unfold cX at hd
    split at hd
    ·cases hd;exact fun x hx=>hx
    ·split at hd
     ·cases hd
     ·rename_i hst
      split at hd
      ·cases hd;exact fun x hx=>HI _ hx
      ·split at hd
       ·cases hd
       ·cases hd;exact fun x hx=>HI _ (HI _ hx)
   intro x hx
   rcases HD.1 hx with rfl|hx
   ·exact hc.2.1
   ·exact hs x (hsub x hx)
  ·cases h
theorem lC {p:Lp} {act:Int}:∀ (c:List Nd) (st st':List Int),bI (cY p act) st c=some st'→(∀ x∈st,aj x=true)→∀ x∈st',aj x=true
 | [],st,st',h,hs=>by unfold bI at h;cases h;exact hs
 |n::c,st,st',h,hs=>by
  unfold bI at h
  cases hn:cY p act st n with
  |none=>rw [hn] at h;cases h
  |some s=>rw [hn] at h;exact lC c s st' h (tr hn hs)
theorem yO {p:Lp} {act:Int} {c:List Nd} {w:Int} (h:fk p act c=some w):aj w=true:=by
 unfold fk Cr at h
 split at h
 ·cases h
 ·cases hf:bI (cY p act) [] c with
  |none=>rw [hf] at h;cases h
  |some st=>
   rw [hf] at h
   have hs:=lC c [] st hf (by simp)
   match st,h,hs with
   | [x],h,hs=>cases h;exact hs _ (by simp)
theorem tu {f:List Nd→Option Int}:∀ (l:List (List Nd)),(gz f l).isSome=true→∀ c∈l,(f c).isSome=true
 | [],_,c,h=>by simp at h
 |d::l,h,c,hc=>by
  unfold gz at h
  cases hf:f d with
  |none=>rw [hf] at h;cases h
  |some w=>
   rw [hf] at h
   simp only [Option.isSome_map] at h
   rcases HD.1 hc with rfl|hc
   ·rw [hf];rfl
   ·exact tu l h c hc
theorem BJ {p:Lp} {t:eF} (hm:bW p=true) (ht:t∈p.tabs) {i:Nat} (hi:i<t.keys.length):aj (m7 p t i)=true:=by
 have h1:=(ck hm).2.2 t ht
 unfold iO at h1
 simp only [Hl] at h1
 have h2:=tu t.keys h1.1.1.1.1.1.1.1.1.1 _ (Ho hi)
 unfold m7
 rw [Hn hi]
 simp only [Option.map_some,H9]
 cases hw:fk p (-1) t.keys[i] with
 |none=>rw [hw] at h2;cases h2
 |some w=>exact yO hw
theorem gu {p:Lp} {a:qv} {i:Int} (hm:bW p=true) (ha:eG p.acts i=some a):a.params.length≤8∧∀ y∈a.params,aj y=true:=by
 obtain ⟨h0,hi,rfl⟩:=kv ha
 unfold bW at hm
 simp only [Hl] at hm
 have h1:=(aF _ _).1 hm.1.1.1.1.2 i.toNat hi
 rw [ag _ hi] at h1
 unfold xk eh at h1
 simp only [Hl,decide_eq_true_eq,Hx] at h1
 exact ⟨h1.1.1,h1.1.2⟩
end Go.Proofs.YtiebolhmdhdagaaGreatDoor

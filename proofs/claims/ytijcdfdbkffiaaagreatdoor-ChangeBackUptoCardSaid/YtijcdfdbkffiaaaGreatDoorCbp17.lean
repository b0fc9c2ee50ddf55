import Derived.Test.YtijcdfdbkffiaaaGreatDoorCbp16
set_option linter.all false
set_option maxHeartbeats 8000000
set_option maxRecDepth 100000
open Go.Proofs.Tryz
namespace Go.Proofs.YtijcdfdbkffiaaaGreatDoor
open _root_.Nat renaming lt_of_lt_of_le→Hr, le_refl→Ht, le_trans→Hw, zero_le→Hz, le_of_lt→HL, lt_trans→HW, zero_add→H3
open _root_.Go.RowKit.Below renaming refl→Hs
open _root_.Bool renaming false_and→Hu, true_and→Hx, and_eq_true→Hy
open _root_.Go.Calls renaming regrown_of→Hv
open _root_.List renaming getElem?_eq_getElem→HA, getElem_mem→HE, all_eq_true→HT, mem_cons→HU, mem_append→HZ, getElem_of_mem→H0, getElem?_eq_some_iff→H1, length_map→H4, take_length→H7, replicate→H8, getElem?_set_self→Ic, getElem?_set_ne→Ih, getD_eq_getElem?_getD→Iq
open _root_.Go.Sort renaming grow→HG
open _root_.Int renaming eq_ofNat_of_zero_le→HH
open _root_.Option renaming bind_some→HP, getD_some→If
open Go.RowKit
theorem xC (A1 A2 A3 A4 A5 A6 A7 A8 A9 A10 A11 A12:Option Addr) (p:Lp) (c1 c2 c3 c4 c5 c6 c7 c8 c9 c10 c11 c12:Nat) (x:aA) (P1 P2:Option Addr) (d1 d2:Nat) (w:World) (h:cz w w.heap.size A1 A2 A3 A4 A5 A6 A7 A8 A9 A10 A11 A12 p) (hkk:∀ t∈p.tabs,t.kinds.length=t.keys.length) (h1:Sl 4 gT w w.heap.size P1 x.pats) (h2:Sl 2 f8 w w.heap.size P2 x.run.args):
  Calls prog 102 #[.agg (aO A1 A2 A3 A4 A5 A6 A7 A8 A9 A10 A11 A12 p c1 c2 c3 c4 c5 c6 c7 c8 c9 c10 c11 c12),CI P1 d1 P2 d2 x] w fun e w'=>e=.returned (.bool (fq p x))∧Below w.heap.size w w':=by
 unfold aO
 obtain ⟨tab,pats,len,prio,act,args⟩:=x
 simp only at h1 h2 ⊢
 have lp1:=h1.len
 have lt5:=h.tabs.len
 obtain ⟨wz,hwz,hsz,hbz,hcz,-⟩:=af w (aO A1 A2 A3 A4 A5 A6 A7 A8 A9 A10 A11 A12 p c1 c2 c3 c4 c5 c6 c7 c8 c9 c10 c11 c12) 33
 obtain ⟨wa,hwa,hsa,hba,hca,-⟩:=af wz #[.int .i64 tab,.slice P1 pats.length d1,.int .i64 len,.int .i64 prio,.int .i64 act,.slice P2 args.length d2] 49
 obtain ⟨y0,y1,y2,y3,y4,y5,y6,y7,y8,y9,y10,y11⟩:=aF fun i=>(bj hba w.heap.size i (by omega)).trans (hcz i)
 rw [hsz] at hca
 obtain ⟨x0,x1,x2,x3,x4,x5⟩:=uY hca
 have l1:w.heap.size<wa.heap.size:=by omega
 have l2:w.heap.size+1<wa.heap.size:=by omega
 have hw:Below w.heap.size w wa:=hbz.trans (hba.mono (by omega))
 have hP:=aa (fun (W:World) (hW:Below wa.heap.size wa W)=>((h.below hw).below (hW.mono hw.size)).more (Hw hw.size hW.size))
 have hPt:=aa (fun (W:World) (hW:Below wa.heap.size wa W)=>((h1.below ay hw).below ay (hW.mono hw.size)).more ay (Hw hw.size hW.size))
 have hNu:=aa (fun (W:World) (hW:Below wa.heap.size wa W)=>((h2.below aq hw).below aq (hW.mono hw.size)).more aq (Hw hw.size hW.size))
 have hTb:=aa ((hP.out wa (Hs _ _)).tabs)
 have hfin:=aa (fun (W:World) (hW:Below wa.heap.size wa W)=>hw.trans (hW.mono hw.size))
 replace hsa:=aa hsa
 clear hcz hca hba hbz h h1 h2 hw
 go_enter func102,ntmps102
 rcases di p.tabs tab with ⟨k,rfl,hk,e1⟩|⟨e1,e2,e3⟩
 focus
  have hkz:(k:Int)<(p.tabs.length:Int):=by omega
  have g1:decide ((k:Int)<0)=false:=decide_eq_false (by omega)
  have g2:decide ((p.tabs.length:Int)≤(k:Int))=false:=decide_eq_false (by omega)
  have g2':decide (p.tabs.length≤k)=false:=decide_eq_false (by omega)
  have hv:=aa (CT (p:=p) (e:=⟨(k:Int),pats,len,prio,⟨act,args⟩⟩) e1)
  have hkl:=aa (hkk _ (HE hk))
  generalize fq p ⟨(k:Int),pats,len,prio,⟨act,args⟩⟩=RES at hv ⊢
  by_cases hp0:0≤prio
  ·have g3:decide (prio<0)=false:=decide_eq_false (by omega)
   by_cases hp1:prio≤65536
   ·have g4:decide ((65536:Int)<prio)=false:=decide_eq_false (by omega)
    have hv1:=aa (hv.out.trans (by rw [oA hp0 hp1,Hx]))
    obtain ⟨b,o,ecs,rfl,hb,hn,hcell,Q1,Q2,Q3,Q4,q1,q2,q3,q4,rfl,s1,s2,s3,s4,-,-⟩:=hTb.out.2 k _ (HA hk)
    have z0:wa.cell? ⟨b,o+k*5,none⟩=some (.slice Q1 p.tabs[k].keys.length q1):=hcell 0 _ rfl
    have z1:wa.cell? ⟨b,o+k*5+1,none⟩=some (.slice Q2 p.tabs[k].kinds.length q2):=hcell 1 _ rfl
    have z2:wa.cell? ⟨b,o+k*5+2,none⟩=some (.slice Q3 p.tabs[k].acts.length q3):=hcell 2 _ rfl
    have z3:wa.cell? ⟨b,o+k*5+3,none⟩=some (.int .i64 p.tabs[k].run.act):=hcell 3 _ rfl
    have z4:wa.cell? ⟨b,o+k*5+4,none⟩=some (.slice Q4 p.tabs[k].run.args.length q4):=hcell 4 _ rfl
    obtain ⟨wb,hwb,hsb,hbb,hcb,-⟩:=af wa #[.slice Q1 p.tabs[k].keys.length q1,.slice Q2 p.tabs[k].kinds.length q2,.slice Q3 p.tabs[k].acts.length q3,.int .i64 p.tabs[k].run.act,.slice Q4 p.tabs[k].run.args.length q4] 88
    have hS:=aa (fun (W:World) (hW:Below wb.heap.size wb W)=>(⟨(s1.keep aV fun q hq=>(hW.cell (Hr hq hbb.size)).trans (hbb.cell hq)).more (B':=W.heap.size) aV (Hw hbb.size hW.size),(s2.keep cw fun q hq=>(hW.cell (Hr hq hbb.size)).trans (hbb.cell hq)).more (B':=W.heap.size) cw (Hw hbb.size hW.size),(s3.keep ah fun q hq=>(hW.cell (Hr hq hbb.size)).trans (hbb.cell hq)).more (B':=W.heap.size) ah (Hw hbb.size hW.size)⟩:Sl 1 pT W W.heap.size Q1 p.tabs[k].keys∧Sl 1 B8 W W.heap.size Q2 p.tabs[k].kinds∧Sl 1 bc W W.heap.size Q3 p.tabs[k].acts))
    have lk1:=s1.len
    generalize p.tabs[k]=t at*
    obtain ⟨t0,t1,t2,t3,t4⟩:=p8 hcb
    have K:=ae hbb
    have la:wa.heap.size<wb.heap.size:=by omega
    have m1:w.heap.size<wb.heap.size:=by omega
    have m2:w.heap.size+1<wb.heap.size:=by omega
    have Y0:=(K.1 _ 0 l1).trans y0
    have Y1:=(K.1 _ 1 l1).trans y1
    have Y2:=(K.1 _ 2 l1).trans y2
    have Y3:=(K.1 _ 3 l1).trans y3
    have Y4:=(K.1 _ 4 l1).trans y4
    have Y5:=(K.1 _ 5 l1).trans y5
    have Y6:=(K.1 _ 6 l1).trans y6
    have Y7:=(K.1 _ 7 l1).trans y7
    have Y8:=(K.1 _ 8 l1).trans y8
    have Y9:=(K.1 _ 9 l1).trans y9
    have Y10:=(K.1 _ 10 l1).trans y10
    have Y11:=(K.1 _ 11 l1).trans y11
    have X0:=(K.1 _ 0 l2).trans x0
    have X1:=(K.1 _ 1 l2).trans x1
    have X2:=(K.1 _ 2 l2).trans x2
    have X3:=(K.1 _ 3 l2).trans x3
    have X4:=(K.1 _ 4 l2).trans x4
    have X5:=(K.1 _ 5 l2).trans x5
    have hbb':=aa hbb
    replace hsb:=aa hsb
    clear hcb hbb K hTb hcell s1 s2 s3 s4 hv hkk hn
    by_cases hlen:pats.length=t.keys.length
    ·have g5:((pats.length:Int) !=(t.keys.length:Int))=false:=by rw [hlen];exact bne_self_eq_false _
     have hv2:=aa (hv1.out.trans (by rw [decide_eq_true hlen,Hx]))
     have hR:=mg A1 A2 A3 A4 (some ⟨b,o,none⟩) A6 A7 A8 A9 A10 A11 A12 p c1 c2 c3 c4 c5 c6 c7 c8 c9 c10 c11 c12 Q3 P2 q3 d2 t.acts ⟨act,args⟩ wb (hP.out wb hbb'.out) (hS.out wb (Hs _ _)).2.2 (hNu.out wb hbb'.out)
     simp only at hR
     generalize dH p t.acts ⟨act,args⟩=R at hR hv2
     replace hR:=aa hR
     replace hlen:=aa hlen
     cases R with
     |false=>
      have hv3:=aa (hv2.out.trans (Hu _))
      go_wp2_with (go_at_call 99;refine hR.out.mono ?_;rintro e w3 ⟨rfl,hb3⟩)
      go_ret
      exact ⟨ad hv3.out.symm,hfin.out _ (hbb'.out.trans (hb3.mono (HL la)))⟩
     |true=>
      have hv3:=aa (hv2.out.trans (Hx _))
      obtain ⟨f,hf⟩:∃ f:Nat→Pt→Int→Option Int,f=fun i x n=>lF (qp p t i) (im t i) x n:=⟨_,rfl⟩
      rw [←hf] at hv3
      replace hf:=aa (fun i x n=>congrFun (congrFun (congrFun hf i) x) n)
      go_wp2_with (go_at_call 99;refine hR.out.mono ?_;rintro e w3 ⟨rfl,hb3⟩;have kk:=ae hb3;have X1':=(kk.1 _ 1 m2).trans X1;have m2':=Hr m2 hb3.size;clear kk)
      go_loopw [6,7,8,9,10,11,12,59] (fun ln _ _ _ _ _ _ c wr=>∃ (j:Nat) (n:Int),j≤pats.length∧c=.int .i64 j∧ln=.int .i64 n∧Hid (dn f 0 (pats.take j) 0=some n)∧Hid (Below wb.heap.size wb wr)) (fun _ _ _ _ _ _ _ c _=>pats.length-(intOf c).toNat)
      case atStart=>exact ⟨0,0,Hz _,rfl,rfl,aa (by simp [dn]),aa hb3⟩
      case round=>
       clear hb3 X1' m2'
       obtain ⟨j,n,hj1,rfl,rfl,hfd,hbr⟩:=hrel
       have kr:=ae hbr.out
       have hzr:=hbr.out.size
       have Z1:=(kr.1 _ 1 m2).trans X1
       have Z2:=(kr.1 _ 2 m2).trans X2
       have m2r:=Hr m2 hzr
       by_cases hlt:j<pats.length
       focus
        have hlk:j<t.keys.length:=by rw [←hlen.out];exact hlt
        have hlkd:j<t.kinds.length:=by rw [hkl.out];exact hlk
        have hltz:(j:Int)<(pats.length:Int):=by omega
        have hltk:(j:Int)<(t.keys.length:Int):=by omega
        have hltkd:(j:Int)<(t.kinds.length:Int):=by omega
        obtain ⟨pb,po,hPA,hpb,u0,u1,u2,u3,okx⟩:=(hPt.out wr (hbb'.out.trans (hbr.out.mono (HL la)))).pt hlt
        subst hPA
        obtain ⟨gb,og,hA2,hg,hkd⟩:=(hS.out wr hbr.out).2.1.byte hlkd
        subst hA2
        obtain ⟨cb,oc,A',c',hA1,hcb,hcd,hE⟩:=(hS.out wr hbr.out).1.code hlk
        subst hA1
        have hlo:=aa (fun (g:f j pats[j] n=none)=>show dn f 0 pats 0=none from nS hlt hfd.out g)
        have hhi:=aa (fun (o:Int) (g:f j pats[j] n=some o)=>show dn f 0 (pats.take (j+1)) 0=some o from nR hlt hfd.out g)
        have hfj:=hf.out j pats[j] n
        rw [Ea hlk,tQ hlkd] at hfj
        have hE':=aa hE
        have hP':=aa (hP.out wr (hbb'.out.trans (hbr.out.mono (HL la))))
        generalize hce:t.keys[j]=ce at*
        generalize pats[j]=x at*
        generalize t.kinds[j]=kd at*
        obtain ⟨wn,hwn,hsn,hbn,hcn,-⟩:=af wr #[.int .u64 x.vh,.int .u64 x.vl,.int .u64 x.mh,.int .u64 x.ml] 101
        obtain ⟨b0,b1,b2,b3⟩:=ig hcn
        have kn:=ae (hbr.out.trans (hbn.mono hzr))
        have kq:=ae hbn
        have m1':=m1
        have hX:∀ d os,Hid (Calls prog 87 #[.agg (aO A1 A2 A3 A4 (some ⟨b,o,none⟩) A6 A7 A8 A9 A10 A11 A12 p c1 c2 c3 c4 c5 c6 c7 c8 c9 c10 c11 c12),.int .i64 (-1),.slice A' ce.length c'] (HG (redrawn wn d) os) _):=fun d os=>aa (gQ A1 A2 A3 A4 (some ⟨b,o,none⟩) A6 A7 A8 A9 A10 A11 A12 p c1 c2 c3 c4 c5 c6 c7 c8 c9 c10 c11 c12 (-1) ce A' c' _ ((hP'.out.below (hbn.trans ((below_regrown wn d os).mono hbn.size))).more (Hw hbn.size (below_regrown wn d os).size)) ((hE'.out.below bm (hbn.trans ((below_regrown wn d os).mono hbn.size))).more bm (Hw hbn.size (below_regrown wn d os).size)))
        have W0:=(kn.1 _ 0 m1').trans Y0
        have W1:=(kn.1 _ 1 m1').trans Y1
        have W2:=(kn.1 _ 2 m1').trans Y2
        have W3:=(kn.1 _ 3 m1').trans Y3
        have W4:=(kn.1 _ 4 m1').trans Y4
        have W5:=(kn.1 _ 5 m1').trans Y5
        have W6:=(kn.1 _ 6 m1').trans Y6
        have W7:=(kn.1 _ 7 m1').trans Y7
        have W8:=(kn.1 _ 8 m1').trans Y8
        have W9:=(kn.1 _ 9 m1').trans Y9
        have W10:=(kn.1 _ 10 m1').trans Y10
        have W11:=(kn.1 _ 11 m1').trans Y11
        have V0:=(kn.1 _ 0 la).trans t0
        have V1:=(kn.1 _ 1 la).trans t1
        have N0:=(kq.1 _ (oc+j) hcb).trans hcd
        have G0:=(kq.1 _ (og+j) hg).trans hkd
        have s0:wr.heap.size<wn.heap.size:=by omega
        have s1:=HW hg s0
        have s2:=HW hcb s0
        have s3:wa.heap.size<wn.heap.size:=by omega
        have s4:w.heap.size<wn.heap.size:=by omega
        have s5:w.heap.size+1<wn.heap.size:=by omega
        have hgw:=aS (show Below wn.heap.size wn wn from Hs _ _) (Ht _)
        have hbz:=aa (hbr.out.trans (hbn.mono hzr))
        have hzz:=hbz.out.size
        unfold Cc at hX
        generalize (eO p (-1) ce).getD 0=y at hX hfj
        generalize (eO p (-1) ce).isSome=is at hX
        have hLn:=aa (fun W=>zR x y W okx)
        have hMy:=aa (fun W=>qK x y W okx)
        unfold lF at hfj
        generalize j9 y x=LN at hLn hfj
        obtain ⟨ln,ls⟩:=LN
        simp only at hLn hfj
        generalize eI y x=m at hMy hfj
        clear kr kn kq hcd hkd hE hE' hP' hbn hcn hce okx hfd
        replace hsn:=aa hsn
        generalize f j x n=F at hfj hlo hhi
        go_wp2_with fail
        refine cR ?_
        repeat (any_goals (first|go_big_quiet_step ((go_at_call 87;with_reducible exact Hv (hX _ _).out))|quiet_step ((go_at_call 87;with_reducible exact Hv (hX _ _).out))))
        refine wpQuiet_nil ?_
        intro w1 hw1
        replace hw1:=ac hw1
        have hb':=hw1
        clear hgw W0 W1 W2 W3 W4 W5 W6 W7 W8 W9 W10 W11 V0 N0 hX s2 s4 s5
        have kk:=ae hb'
        replace b0:=(kk.1 _ 0 s0).trans b0
        replace b1:=(kk.1 _ 1 s0).trans b1
        replace b2:=(kk.1 _ 2 s0).trans b2
        replace b3:=(kk.1 _ 3 s0).trans b3
        replace V1:=(kk.1 _ 1 s3).trans V1
        replace G0:=(kk.1 _ (og+j) s1).trans G0
        replace s0:=Hr s0 hb'.size
        replace s1:=Hr s1 hb'.size
        replace s3:=Hr s3 hb'.size
        replace hbz:=aa (hbz.out.trans (hb'.mono hzz))
        replace hzz:=Hw hzz hb'.size
        clear kk hb' hw1
        cases m
        have hF:F=none:=by rw [hfj];simp
        rotate_right
        focus
         simp only [Bool.true_eq_false,if_false] at hfj
         by_cases e1:kd=1
         focus
          have c1:(kd==1)=true:=beq_iff_eq.2 e1
          have c2:(kd==2)=false:=by rw [e1];rfl
          have c3:(kd=1)=True:=eq_true e1
          have c4:(kd=2)=False:=eq_false (by omega)
          clear e1
          by_cases e2:ln<y
          have c5:decide (ln<y)=true:=decide_eq_true e2
          have hF:F=none:=by rw [hfj];simp [c3,e2]
          rotate_right
          focus
           have c5:decide (ln<y)=false:=decide_eq_false e2
           have hF:F=some n:=by rw [hfj];simp [c3,c4,e2]
           replace hhi:=aa (hhi.out _ hF)
           clear hfj hF hlo
           go_wp2_with (first|(go_at_call 140;refine (hLn.out _).mono ?_;rintro e w' ⟨rfl,hb'⟩;have kk:=ae hb';replace b0:=(kk.1 _ 0 s0).trans b0;replace b1:=(kk.1 _ 1 s0).trans b1;replace b2:=(kk.1 _ 2 s0).trans b2;replace b3:=(kk.1 _ 3 s0).trans b3;replace V1:=(kk.1 _ 1 s3).trans V1;replace G0:=(kk.1 _ (og+j) s1).trans G0;replace s0:=Hr s0 hb'.size;replace s1:=Hr s1 hb'.size;replace s3:=Hr s3 hb'.size;replace hbz:=aa (hbz.out.trans (hb'.mono hzz));replace hzz:=Hw hzz hb'.size;clear kk hb')|(go_at_call 141;refine (hMy.out _).mono ?_;rintro e w' ⟨rfl,hb'⟩;have kk:=ae hb';replace b0:=(kk.1 _ 0 s0).trans b0;replace b1:=(kk.1 _ 1 s0).trans b1;replace b2:=(kk.1 _ 2 s0).trans b2;replace b3:=(kk.1 _ 3 s0).trans b3;replace V1:=(kk.1 _ 1 s3).trans V1;replace G0:=(kk.1 _ (og+j) s1).trans G0;replace s0:=Hr s0 hb'.size;replace s1:=Hr s1 hb'.size;replace s3:=Hr s3 hb'.size;replace hbz:=aa (hbz.out.trans (hb'.mono hzz));replace hzz:=Hw hzz hb'.size;clear kk hb'))
           go_roundw
           case rel=>exact ⟨j+1,n,by omega,by go_num,rfl,hhi,hbz⟩
           case measure=>simp [intOf];omega
         rotate_right
         focus
          have c1:(kd==1)=false:=beq_eq_false_iff_ne.2 e1
          have c3:(kd=1)=False:=eq_false e1
          by_cases e2:kd=2
          focus
           have c2:(kd==2)=true:=beq_iff_eq.2 e2
           have c4:(kd=2)=True:=eq_true e2
           clear e1 e2
           cases ls
           have hF:F=none:=by rw [hfj];simp [c3,c4]
           rotate_right
           focus
            have hF:F=some ln:=by rw [hfj];simp [c3,c4]
            replace hhi:=aa (hhi.out _ hF)
            clear hfj hF hlo
            go_wp2_with (first|(go_at_call 140;refine (hLn.out _).mono ?_;rintro e w' ⟨rfl,hb'⟩;have kk:=ae hb';replace b0:=(kk.1 _ 0 s0).trans b0;replace b1:=(kk.1 _ 1 s0).trans b1;replace b2:=(kk.1 _ 2 s0).trans b2;replace b3:=(kk.1 _ 3 s0).trans b3;replace V1:=(kk.1 _ 1 s3).trans V1;replace G0:=(kk.1 _ (og+j) s1).trans G0;replace s0:=Hr s0 hb'.size;replace s1:=Hr s1 hb'.size;replace s3:=Hr s3 hb'.size;replace hbz:=aa (hbz.out.trans (hb'.mono hzz));replace hzz:=Hw hzz hb'.size;clear kk hb')|(go_at_call 141;refine (hMy.out _).mono ?_;rintro e w' ⟨rfl,hb'⟩;have kk:=ae hb';replace b0:=(kk.1 _ 0 s0).trans b0;replace b1:=(kk.1 _ 1 s0).trans b1;replace b2:=(kk.1 _ 2 s0).trans b2;replace b3:=(kk.1 _ 3 s0).trans b3;replace V1:=(kk.1 _ 1 s3).trans V1;replace G0:=(kk.1 _ (og+j) s1).trans G0;replace s0:=Hr s0 hb'.size;replace s1:=Hr s1 hb'.size;replace s3:=Hr s3 hb'.size;replace hbz:=aa (hbz.out.trans (hb'.mono hzz));replace hzz:=Hw hzz hb'.size;clear kk hb'))
            go_roundw
            case rel=>exact ⟨j+1,ln,by omega,by go_num,rfl,hhi,hbz⟩
            case measure=>simp [intOf];omega
          rotate_right
          focus
           have c2:(kd==2)=false:=beq_eq_false_iff_ne.2 e2
           have c4:(kd=2)=False:=eq_false e2
           clear e1 e2
           have hF:F=some n:=by rw [hfj];simp [c3,c4]
           replace hhi:=aa (hhi.out _ hF)
           clear hfj hF hlo
           go_wp2_with (first|(go_at_call 140;refine (hLn.out _).mono ?_;rintro e w' ⟨rfl,hb'⟩;have kk:=ae hb';replace b0:=(kk.1 _ 0 s0).trans b0;replace b1:=(kk.1 _ 1 s0).trans b1;replace b2:=(kk.1 _ 2 s0).trans b2;replace b3:=(kk.1 _ 3 s0).trans b3;replace V1:=(kk.1 _ 1 s3).trans V1;replace G0:=(kk.1 _ (og+j) s1).trans G0;replace s0:=Hr s0 hb'.size;replace s1:=Hr s1 hb'.size;replace s3:=Hr s3 hb'.size;replace hbz:=aa (hbz.out.trans (hb'.mono hzz));replace hzz:=Hw hzz hb'.size;clear kk hb')|(go_at_call 141;refine (hMy.out _).mono ?_;rintro e w' ⟨rfl,hb'⟩;have kk:=ae hb';replace b0:=(kk.1 _ 0 s0).trans b0;replace b1:=(kk.1 _ 1 s0).trans b1;replace b2:=(kk.1 _ 2 s0).trans b2;replace b3:=(kk.1 _ 3 s0).trans b3;replace V1:=(kk.1 _ 1 s3).trans V1;replace G0:=(kk.1 _ (og+j) s1).trans G0;replace s0:=Hr s0 hb'.size;replace s1:=Hr s1 hb'.size;replace s3:=Hr s3 hb'.size;replace hbz:=aa (hbz.out.trans (hb'.mono hzz));replace hzz:=Hw hzz hb'.size;clear kk hb'))
           go_roundw
           case rel=>exact ⟨j+1,n,by omega,by go_num,rfl,hhi,hbz⟩
           case measure=>simp [intOf];omega
       rotate_right
       focus
        have hje:j=pats.length:=by omega
        subst hje
        rw [H7] at hfd
        rw [hfd.out] at hv3
        by_cases he:len=n
        have hv4:=aa (hv3.out.trans (decide_eq_true (by rw [he])))
        have q:(len==n)=true:=by rw [beq_iff_eq];exact he
        rotate_right
        have hv4:=aa (hv3.out.trans (decide_eq_false (by intro g;injection g with g;exact he g.symm)))
        have q:(len==n)=false:=by rw [beq_eq_false_iff_ne];exact he
        all_goals
         clear hv3 he
         go_wp2
         go_ret
         exact ⟨ad hv4.out.symm,hfin.out _ (hbb'.out.trans (hbr.out.mono (HL la)))⟩
       all_goals
        replace hlo:=aa (hlo.out hF)
        have hv4:=aa (hv3.out.trans (decide_eq_false (by rw [hlo.out];simp)))
        clear hfj hF hhi hlo
        go_wp2_with (first|(go_at_call 140;refine (hLn.out _).mono ?_;rintro e w' ⟨rfl,hb'⟩;have kk:=ae hb';replace b0:=(kk.1 _ 0 s0).trans b0;replace b1:=(kk.1 _ 1 s0).trans b1;replace b2:=(kk.1 _ 2 s0).trans b2;replace b3:=(kk.1 _ 3 s0).trans b3;replace V1:=(kk.1 _ 1 s3).trans V1;replace G0:=(kk.1 _ (og+j) s1).trans G0;replace s0:=Hr s0 hb'.size;replace s1:=Hr s1 hb'.size;replace s3:=Hr s3 hb'.size;replace hbz:=aa (hbz.out.trans (hb'.mono hzz));replace hzz:=Hw hzz hb'.size;clear kk hb')|(go_at_call 141;refine (hMy.out _).mono ?_;rintro e w' ⟨rfl,hb'⟩;have kk:=ae hb';replace b0:=(kk.1 _ 0 s0).trans b0;replace b1:=(kk.1 _ 1 s0).trans b1;replace b2:=(kk.1 _ 2 s0).trans b2;replace b3:=(kk.1 _ 3 s0).trans b3;replace V1:=(kk.1 _ 1 s3).trans V1;replace G0:=(kk.1 _ (og+j) s1).trans G0;replace s0:=Hr s0 hb'.size;replace s1:=Hr s1 hb'.size;replace s3:=Hr s3 hb'.size;replace hbz:=aa (hbz.out.trans (hb'.mono hzz));replace hzz:=Hw hzz hb'.size;clear kk hb'))
        go_ret
        exact ⟨ad hv4.out.symm,hfin.out _ (hbb'.out.trans (hbz.out.mono (HL la)))⟩
    ·have g5:((pats.length:Int) !=(t.keys.length:Int))=true:=by rw [bne_iff_ne];omega
     have hv2:=aa (hv1.out.trans (by rw [decide_eq_false hlen,Hu]))
     clear hlen
     go_wp2
     go_ret
     exact ⟨ad hv2.out.symm,hfin.out _ hbb'.out⟩
   ·have g4:decide ((65536:Int)<prio)=true:=decide_eq_true (by omega)
    have hv1:=aa (hv.out.trans (by rw [oz hp1,Hu]))
    go_wp2
    go_ret
    exact ⟨ad hv1.out.symm,hfin.out _ (Hs _ _)⟩
  ·have g3:decide (prio<0)=true:=decide_eq_true (by omega)
   have hv1:=aa (hv.out.trans (by rw [oy hp0,Hu]))
   go_wp2
   go_ret
   exact ⟨ad hv1.out.symm,hfin.out _ (Hs _ _)⟩
 rotate_right
 focus
  have hv:=aa (AH (e:=⟨tab,pats,len,prio,⟨act,args⟩⟩) e1).1
  have e4:¬(0≤tab∧tab<(p.tabs.length:Int)):=by
   rintro ⟨a,b⟩
   obtain ⟨k,rfl⟩:=HH a
   rw [il k (by omega)] at e1
   cases e1
  by_cases h0:tab<0
  have g1:decide (tab<0)=true:=decide_eq_true h0
  rotate_right
  have g1:decide (tab<0)=false:=decide_eq_false h0
  have g2:decide ((p.tabs.length:Int)≤tab)=true:=decide_eq_true (by omega)
 all_goals
  clear e4 e1 e2 e3
  go_wp2
  go_ret
  exact ⟨ad hv.out.symm,hfin.out _ (Hs _ _)⟩
theorem rF (fid:Nat) (lb:Array Value) (eg:∀ args w,(callFunc fid args).run prog w=.ok (.enter fid args) w) (q:aA→Bool) (A:Option Addr) (cap:Nat) (xs:List aA) (w:World) (h:Sl 6 eM w w.heap.size A xs) (hf:CP eM w.heap.size fid lb q xs w):
  Calls prog 139 #[.slice A xs.length cap,.func (.func fid) #[] lb] w fun e w'=>e=.returned (.int .i64 (kl q xs))∧Below w.heap.size w w':=by
 have hl:=h.len
 replace hf:=aa hf
 go_enter func139,ntmps139
 go_wp2
 go_loopw [5,8] (fun _ i wr=>∃ k:Nat,k≤xs.length∧i=.int .i64 k∧Hid ((xs.take k).any q=false)∧Hid (Below w.heap.size w wr)) (fun _ i _=>xs.length-(intOf i).toNat)
 case atStart=>exact ⟨0,Hz _,rfl,aa (by simp),aa (Hs _ _)⟩
 case round=>
  obtain ⟨k,hk,rfl,hc,hbr⟩:=hrel
  by_cases hlt:k<xs.length
  ·have hltz:(k:Int)<(xs.length:Int):=by omega
   obtain ⟨b,o,ecs,rfl,hb,hn,hcell,hre⟩:=h.2 k _ (HA hlt)
   have hcall:=hf.out xs[k] wr ecs (HE _) hbr.out (bG.more (bG.keep hre fun q hq=>hbr.out.cell hq) hbr.out.size)
   have hcw:=fun j u hu=>(hbr.out.cell (p:=⟨b,o+k*6+j,none⟩) hb).trans (hcell j u hu)
   obtain ⟨P1,d1,P2,d2,rfl,hs1,hs2⟩:=hre
   have x0:wr.cell? ⟨b,o+k*6,none⟩=_:=hcw 0 _ rfl
   have x1:wr.cell? ⟨b,o+k*6+1,none⟩=_:=hcw 1 _ rfl
   have x2:wr.cell? ⟨b,o+k*6+2,none⟩=_:=hcw 2 _ rfl
   have x3:wr.cell? ⟨b,o+k*6+3,none⟩=_:=hcw 3 _ rfl
   have x4:wr.cell? ⟨b,o+k*6+4,none⟩=_:=hcw 4 _ rfl
   have x5:wr.cell? ⟨b,o+k*6+5,none⟩=_:=hcw 5 _ rfl
   clear h hcell hcw
   cases hp:q xs[k] with
   |true=>
    rw [hp] at hcall
    have hv:=aa (jc hlt hc.out hp)
    clear hp
    replace hcall:=aa hcall
    go_wp2_with (go_at_fn fid;refine hcall.out.mono ?_;rintro e w' ⟨rfl,hb1⟩)
    go_ret
    exact ⟨av hv.out.symm,hbr.out.trans (hb1.mono hbr.out.size)⟩
   |false=>
    rw [hp] at hcall
    have hv:=aa (bY hlt hc.out hp)
    clear hp
    replace hcall:=aa hcall
    go_wp2_with (go_at_fn fid;refine hcall.out.mono ?_;rintro e w' ⟨rfl,hb1⟩)
    go_roundw
    case rel=>exact ⟨k+1,by omega,by go_num,hv,aa (hbr.out.trans (hb1.mono hbr.out.size))⟩
    case measure=>simp [intOf];omega
  ·have hv:=aa (jd (de hk hlt hc.out))
   go_wp2
   go_ret
   exact ⟨av hv.out.symm,hbr.out⟩
theorem mD (fid:Nat) (lb:Array Value) (eg:∀ args w,(callFunc fid args).run prog w=.ok (.enter fid args) w) (q:aA→Bool) (A:Option Addr) (cap:Nat) (xs:List aA) (w:World) (h:Sl 6 eM w w.heap.size A xs) (hf:CP eM w.heap.size fid lb q xs w):
  Calls prog 100 #[.slice A xs.length cap,.func (.func fid) #[] lb] w fun e w'=>e=.returned (.bool (xs.any q))∧Below w.heap.size w w':=by
 have hv:=aa (d7 q xs)
 replace hf:=aa hf
 go_enter func100,ntmps100
 go_wp2_with (go_at_call 139;refine (rF fid lb eg q A cap xs _ h hf.out).mono ?_;rintro e w' ⟨rfl,hb⟩)
 go_ret
 exact ⟨ad hv.out,hb⟩
theorem rG:∀ args w,(callFunc 101 args).run prog w=.ok (.enter 101 args) w:=enters_of func101 (by kernel_rfl) rfl
theorem tU (A1 A2 A3 A4 A5 A6 A7 A8 A9 A10 A11 A12:Option Addr) (p:Lp) (c1 c2 c3 c4 c5 c6 c7 c8 c9 c10 c11 c12:Nat) (e:aA) (P1 P2:Option Addr) (d1 d2 x:Nat) (w:World) (h:cz w w.heap.size A1 A2 A3 A4 A5 A6 A7 A8 A9 A10 A11 A12 p) (hkk:∀ t∈p.tabs,t.kinds.length=t.keys.length) (lx:x<w.heap.size) (Y:∀ i,w.cell? ⟨x,i,none⟩=((aO A1 A2 A3 A4 A5 A6 A7 A8 A9 A10 A11 A12 p c1 c2 c3 c4 c5 c6 c7 c8 c9 c10 c11 c12):Array Value)[i]?) (h1:Sl 4 gT w w.heap.size P1 e.pats) (h2:Sl 2 f8 w w.heap.size P2 e.run.args):
  Calls prog 101 #[CI P1 d1 P2 d2 e,.pointer (some ⟨x,0,none⟩)] w fun r w'=>r=.returned (.bool (!fq p e))∧Below w.heap.size w w':=by
 obtain ⟨wa,hwa,hsa,hba,hca,-⟩:=af w #[.int .i64 e.tab,.slice P1 e.pats.length d1,.int .i64 e.len,.int .i64 e.prio,.int .i64 e.run.act,.slice P2 e.run.args.length d2] 49
 obtain ⟨b0,b1,b2,b3,b4,b5⟩:=uY hca
 obtain ⟨y0,y1,y2,y3,y4,y5,y6,y7,y8,y9,y10,y11⟩:=aF fun i=>(hba.cell (p:=⟨x,i,none⟩) lx).trans (Y i)
 have hC:=aa (xC A1 A2 A3 A4 A5 A6 A7 A8 A9 A10 A11 A12 p c1 c2 c3 c4 c5 c6 c7 c8 c9 c10 c11 c12 e P1 P2 d1 d2 wa ((h.below hba).more hba.size) hkk ((h1.below ay hba).more ay hba.size) ((h2.below aq hba).more aq hba.size))
 have hl:=Hr lx hba.size
 have hl2:w.heap.size<wa.heap.size:=by omega
 replace hba:=aa hba
 replace hsa:=aa hsa
 clear hca Y h h1 h2
 go_enter func101,ntmps101
 go_wp2_with (go_at_call 102;refine hC.out.mono ?_;rintro r w3 ⟨rfl,hb3⟩)
 go_ret
 exact ⟨rfl,hba.out.trans (hb3.mono hba.out.size)⟩
theorem AK (A1 A2 A3 A4 A5 A6 A7 A8 A9 A10 A11 A12:Option Addr) (p:Lp) (c1 c2 c3 c4 c5 c6 c7 c8 c9 c10 c11 c12:Nat) (A:Option Addr) (cap:Nat) (l:List aA) (x:Nat) (w:World) (h:cz w w.heap.size A1 A2 A3 A4 A5 A6 A7 A8 A9 A10 A11 A12 p) (hkk:∀ t∈p.tabs,t.kinds.length=t.keys.length) (hl:Sl 6 eM w w.heap.size A l) (lx:x<w.heap.size) (Y:∀ i,w.cell? ⟨x,i,none⟩=((aO A1 A2 A3 A4 A5 A6 A7 A8 A9 A10 A11 A12 p c1 c2 c3 c4 c5 c6 c7 c8 c9 c10 c11 c12):Array Value)[i]?):
  Calls prog 100 #[.slice A l.length cap,.func (.func 101) #[] #[.pointer (some ⟨x,0,none⟩)]] w fun e w'=>e=.returned (.bool (!l.all (fq p)))∧Below w.heap.size w w':=by
 rw [←je]
 refine mD 101 _ rG (fun s=> !fq p s) A cap l w hl fun s W cs _ hW hr=> ?_
 obtain ⟨P1,d1,P2,d2,rfl,hs1,hs2⟩:=hr
 exact tU A1 A2 A3 A4 A5 A6 A7 A8 A9 A10 A11 A12 p c1 c2 c3 c4 c5 c6 c7 c8 c9 c10 c11 c12 s P1 P2 d1 d2 x W ((h.below hW).more hW.size) hkk (Hr lx hW.size) (fun i=>(hW.cell (p:=⟨x,i,none⟩) lx).trans (Y i)) hs1 hs2
theorem tV {p:Lp} (h:bR p=true):∀ t∈p.tabs,t.kinds.length=t.keys.length:=fun t ht=>(jC ((fX h).2.2 t ht)).2.2.1
theorem AM (A1 A2 A3 A4 A5 A6 A7 A8 A9 A10 A11 A12:Option Addr) (p:Lp) (c1 c2 c3 c4 c5 c6 c7 c8 c9 c10 c11 c12:Nat) (A:Option Addr) (cap:Nat) (l:List aA) (w:World) (h:cz w w.heap.size A1 A2 A3 A4 A5 A6 A7 A8 A9 A10 A11 A12 p) (hl:Sl 6 eM w w.heap.size A l):
  Calls prog 46 #[.agg (aO A1 A2 A3 A4 A5 A6 A7 A8 A9 A10 A11 A12 p c1 c2 c3 c4 c5 c6 c7 c8 c9 c10 c11 c12),.slice A l.length cap] w fun e w'=>e=.returned (.bool (fv p l))∧Below w.heap.size w w':=by
 unfold aO
 have hll:=hl.len
 obtain ⟨wz,hwz,hsz,hbz,hcz,-⟩:=af w (aO A1 A2 A3 A4 A5 A6 A7 A8 A9 A10 A11 A12 p c1 c2 c3 c4 c5 c6 c7 c8 c9 c10 c11 c12) 33
 have lx:w.heap.size<wz.heap.size:=by omega
 have hP:=fun (W:World) (hW:Below wz.heap.size wz W)=>((h.below hbz).below (hW.mono hbz.size)).more (Hw hbz.size hW.size)
 have hM:=aa (dA A1 A2 A3 A4 A5 A6 A7 A8 A9 A10 A11 A12 p c1 c2 c3 c4 c5 c6 c7 c8 c9 c10 c11 c12 wz (hP wz (Hs _ _)))
 have hC:=aa (fun (hm:bR p=true) (W:World) (hW:Below wz.heap.size wz W)=>AK A1 A2 A3 A4 A5 A6 A7 A8 A9 A10 A11 A12 p c1 c2 c3 c4 c5 c6 c7 c8 c9 c10 c11 c12 A cap l w.heap.size W (hP W hW) (tV hm) (((hl.below bG hbz).below bG (hW.mono hbz.size)).more bG (Hw hbz.size hW.size)) (Hr lx hW.size) (fun i=>(hW.cell (p:=⟨w.heap.size,i,none⟩) lx).trans (hcz i)))
 have hv:=aa (show fv p l=(bR p&&(decide (l.length≤64)&&l.all (fq p))) from rfl)
 have hgo:=aa (fun (W:World) (hW:Below wz.heap.size wz W)=>hbz.trans (hW.mono hbz.size))
 obtain ⟨y0,y1,y2,y3,y4,y5,y6,y7,y8,y9,y10,y11⟩:=aF hcz
 replace hsz:=aa hsz
 clear hcz hbz h hl hP
 cases hm:bR p
 rw [hm] at hM hv
 replace hv:=aa (hv.out.trans (Hu _))
 clear hC hm
 rotate_right
 focus
  replace hC:=aa (hC.out hm)
  rw [hm] at hM hv
  replace hv:=aa (hv.out.trans (Hx _))
  clear hm
  by_cases h64:l.length≤64
  focus
   have d1:decide ((l.length:Int)≤64)=true:=decide_eq_true (by omega)
   have d2:decide (l.length≤64)=true:=decide_eq_true h64
   replace hv:=aa (hv.out.trans (by rw [d2,Hx]))
   generalize l.all (fq p)=R at hC hv
   go_enter func46,ntmps46
   go_wp2_with (first|(go_at_call 22;refine hM.out.mono ?_;rintro e w1 ⟨rfl,hb1⟩)|(go_at_call 100;refine (hC.out _ hb1).mono ?_;rintro e w2 ⟨rfl,hb2⟩))
   go_ret
   exact ⟨ad (by rw [hv.out]),hgo.out _ (hb1.trans (hb2.mono hb1.size))⟩
  rotate_right
  have d1:decide ((l.length:Int)≤64)=false:=decide_eq_false (by omega)
  have d2:decide (l.length≤64)=false:=decide_eq_false h64
  replace hv:=aa (hv.out.trans (by rw [d2,Hu]))
  clear hC
 all_goals
  go_enter func46,ntmps46
  go_wp2_with (go_at_call 22;refine hM.out.mono ?_;rintro e w1 ⟨rfl,hb1⟩)
  go_ret
  exact ⟨ad hv.out.symm,hgo.out _ hb1⟩
@[reducible] def G8 (n:EF) (A1 A2 A3:Option Addr) (c1 c2 c3:Nat):Value:=.agg #[.slice A1 n.sw.length c1,.slice A2 n.ports.length c2,.slice A3 n.links.length c3]
def km (w:World) (B:Nat) (A1 A2 A3:Option Addr) (n:EF):Prop:=Sl 1 cJ w B A1 n.sw∧Sl 1 (mS 1 bc) w B A2 n.ports∧Sl 4 Dr w B A3 n.links
theorem km.keep {w w':World} {B:Nat} {A1 A2 A3:Option Addr} {n:EF} (h:km w B A1 A2 A3 n) (hk:∀ p:Addr,p.block<B→w'.cell? p=w.cell? p):km w' B A1 A2 A3 n:=
 ⟨h.1.keep aG hk,h.2.1.keep (ee ah) hk,h.2.2.keep pX hk⟩
theorem km.more {w:World} {B B':Nat} {A1 A2 A3:Option Addr} {n:EF} (h:km w B A1 A2 A3 n) (hB:B≤B'):km w B' A1 A2 A3 n:=
 ⟨h.1.more aG hB,h.2.1.more (ee ah) hB,h.2.2.more pX hB⟩
theorem km.below {w w':World} {B:Nat} {A1 A2 A3:Option Addr} {n:EF} (h:km w B A1 A2 A3 n) (hb:Below B w w'):km w' B A1 A2 A3 n:=h.keep fun _ hp=>hb.cell hp
theorem km.alloc {w:World} {B:Nat} {A1 A2 A3:Option Addr} {n:EF} (h:km w B A1 A2 A3 n) (hB:B≤w.heap.size) (o:Obj):km (w.alloc o) B A1 A2 A3 n:=h.keep fun p hp=>World.cell?_alloc_lt w o p (by omega)


section
open Go.RowKit Go.Lib
structure Dz (w W:World) (b:Nat) (C:Array Value) (l:List UInt8):Prop where
 bel:Below w.heap.size w W
 bl:EH W b l
 gb:w.heap.size<b
 lt:b<W.heap.size
 pb:∀ i,W.cell? ⟨w.heap.size,i,none⟩=C[i]?
theorem EH.belowK {w w':World} {b:Nat} {l:List UInt8} (h:EH w b l) (hb:Below w.heap.size w w') (hlt:b<w.heap.size):EH w' b l:=by
 have key:∀ p,Go.Lib.BuilderAt 287 5 b b p (Go.Lib.byteCells l) w→Go.Lib.BuilderAt 287 5 b b p (Go.Lib.byteCells l) w':=fun p hp=>by
  obtain ⟨h1,v,h2,h3,h4⟩:=hp
  exact ⟨h1,v,(hb.block b hlt).trans h2,dO h3 hb (Ht _),h4⟩
 rcases h with h|h
 ·exact .inl (key _ h)
 ·exact .inr (key _ h)
theorem Dz.step {w W W':World} {b:Nat} {C:Array Value} {l l':List UInt8} (h:Dz w W b C l) (hb:Below b W W') (hl:EH W' b l'):Dz w W' b C l':=
 ⟨h.bel.trans (hb.mono (HL h.gb)),hl,h.gb,Hr h.lt hb.size,fun i=>(hb.cell (p:=⟨w.heap.size,i,none⟩) h.gb).trans (h.pb i)⟩
theorem Dz.below {w W W':World} {b:Nat} {C:Array Value} {l:List UInt8} (h:Dz w W b C l) (hb:Below W.heap.size W W'):Dz w W' b C l:=
 h.step (hb.mono (HL h.lt)) (h.bl.belowK hb h.lt)
theorem Dz.str {w W:World} {b:Nat} {C:Array Value} {l:List UInt8} (h:Dz w W b C l):
  Calls prog 242 #[.pointer (some ⟨b,0,none⟩)] W fun e w'=>e=.returned (.string ⟨l.toArray⟩)∧Below w.heap.size w w':=
 (zK b l W h.bl (HL h.lt)).mono fun e w' g=>⟨g.1,h.bel.trans (g.2.mono (HL h.gb))⟩
end
theorem rH {p:Lp} {act:Int} {st st':List Int} {n:Nd} (h:cU p act st n=some st') (hs:∀ x∈st,aj x=true):∀ x∈st',aj x=true:=by
 unfold cU at h
 cases hd:cT p act st n with
 |none=>rw [hd] at h;cases h
 |some y=>
  obtain ⟨w,s⟩:=y
  rw [hd] at h
  simp only at h
  split at h
  ·rename_i hc
   cases h
   have hsub:∀ x∈s,x∈st:=by
    unfold cT at hd
    split at hd
    ·cases hd;exact fun x hx=>hx
    ·split at hd
     ·cases hd
     ·rename_i hst
      split at hd
      ·cases hd;exact fun x hx=>List.mem_cons_of_mem _ hx
      ·split at hd
       ·cases hd
       ·cases hd;exact fun x hx=>List.mem_cons_of_mem _ (List.mem_cons_of_mem _ hx)
   intro x hx
   rcases HU.1 hx with rfl|hx
   ·exact hc.2.1
   ·exact hs x (hsub x hx)
  ·cases h
theorem j5 {p:Lp} {act:Int}:∀ (c:List Nd) (st st':List Int),bD (cU p act) st c=some st'→(∀ x∈st,aj x=true)→∀ x∈st',aj x=true
 | [],st,st',h,hs=>by unfold bD at h;cases h;exact hs
 |n::c,st,st',h,hs=>by
  unfold bD at h
  cases hn:cU p act st n with
  |none=>rw [hn] at h;cases h
  |some s=>rw [hn] at h;exact j5 c s st' h (rH hn hs)
theorem xD {p:Lp} {act:Int} {c:List Nd} {w:Int} (h:eO p act c=some w):aj w=true:=by
 unfold eO B6 at h
 split at h
 ·cases h
 ·cases hf:bD (cU p act) [] c with
  |none=>rw [hf] at h;cases h
  |some st=>
   rw [hf] at h
   have hs:=j5 c [] st hf (by simp)
   match st,h,hs with
   | [x],h,hs=>cases h;exact hs _ (by simp)
theorem rI {f:List Nd→Option Int}:∀ (l:List (List Nd)),(f6 f l).isSome=true→∀ c∈l,(f c).isSome=true
 | [],_,c,h=>by simp at h
 |d::l,h,c,hc=>by
  unfold f6 at h
  cases hf:f d with
  |none=>rw [hf] at h;cases h
  |some w=>
   rw [hf] at h
   simp only [Option.isSome_map] at h
   rcases HU.1 hc with rfl|hc
   ·rw [hf];rfl
   ·exact rI l h c hc
theorem AO {p:Lp} {t:fJ} (hm:bR p=true) (ht:t∈p.tabs) {i:Nat} (hi:i<t.keys.length):aj (qp p t i)=true:=by
 have h1:=(fX hm).2.2 t ht
 unfold ij at h1
 simp only [Hy] at h1
 have h2:=rI t.keys h1.1.1.1.1.1.1.1.1.1 _ (HE hi)
 unfold qp
 rw [HA hi]
 simp only [Option.map_some,If]
 cases hw:eO p (-1) t.keys[i] with
 |none=>rw [hw] at h2;cases h2
 |some w=>exact xD hw
theorem tW {p:Lp} {a:sM} {i:Int} (hm:bR p=true) (ha:eC p.acts i=some a):a.params.length≤8∧∀ y∈a.params,aj y=true:=by
 obtain ⟨h0,hi,rfl⟩:=tD ha
 unfold bR at hm
 simp only [Hy] at hm
 have h1:=(aY _ _).1 hm.1.1.1.1.2 i.toNat hi
 rw [am _ hi] at h1
 unfold vL dU at h1
 simp only [Hy,decide_eq_true_eq,HT] at h1
 exact ⟨h1.1.1,h1.1.2⟩
section
open Go.RowKit Go.Lib
theorem Sl.ents {w:World} {B:Nat} {A:Option Addr} {xs:List (List aA)} (h:Sl 1 em w B A xs) {i:Nat} (hi:i<xs.length):∃ b o A' c',A=some ⟨b,o,none⟩∧b<B∧w.cell? ⟨b,o+i,none⟩=some (.slice A' xs[i].length c')∧Sl 6 eM w B A' xs[i]:=by
 obtain ⟨b,o,u,hA,hb,hc,A',c',e,hS⟩:=h.at1 hi
 injection e with e
 subst e
 exact ⟨b,o,A',c',hA,hb,hc,hS⟩
end
def gE (e:aA):Bool:=decide (10<e.pats.length) ||decide (10<e.run.args.length)
def CW (es:List aA):Bool:=decide (80<es.length) ||es.any gE
def ei (l:List (List aA)):Bool:=l.any CW ||decide (12<l.length)
theorem AQ {α:Type} {f:α→Bool} {l:List α} {i:Nat} (h:i<l.length) (hf:f l[i]=true):l.any f=true:=List.any_eq_true.2 ⟨_,HE h,hf⟩
theorem AT {α:Type} {f:α→Bool} {l:List α} (h:∀ i (hi:i<l.length),f l[i]=false):l.any f=false:=by
 rw [List.any_eq_false]
 intro x hx
 obtain ⟨i,hi,rfl⟩:=H0 hx
 rw [h i hi];simp
theorem uZ (AE:Option Addr) (cE:Nat) (l:List (List aA)) (w:World) (hle:Sl 1 em w w.heap.size AE l):
  Calls prog 14 #[.slice AE l.length cE] w fun e w'=>e=.returned (.bool (ei l))∧w=w':=by
 have le:=hle.len
 have hyes:=aa (fun i (hi:i<l.length) (hg:CW l[i]=true)=>show ei l=true from by unfold ei;rw [AQ hi hg];rfl)
 have hno:=aa (fun (h:∀ i (hi:i<l.length),CW l[i]=false)=>show ei l=decide (12<l.length) from by unfold ei;rw [AT h];rfl)
 generalize ei l=R at hyes hno ⊢
 go_enter func14,ntmps14
 go_wp2
 go_loopw [3,4] (fun v3 _ wr=>∃ (i:Nat),v3=.int .i64 (i:Int)∧i≤l.length∧wr=w∧Hid (∀ k (hk:k<l.length),k<i→CW l[k]=false)) (fun v3 _ _=>l.length-(RowKit.intOf v3).toNat)
 case atStart=>exact ⟨0,rfl,Hz _,rfl,aa (fun k _ h=>absurd h (Nat.not_lt_zero _))⟩
 case round=>
  obtain ⟨i,rfl,hi,rfl,hinv⟩:=hrel
  by_cases hil:i<l.length
  ·have hiz:(i:Int)<(l.length:Int):=by omega
   have dk:decide ((i:Int)<(l.length:Int))=true:=decide_eq_true hiz
   obtain ⟨eb,eo,EA,ec,hA2,heb,hec,hEl⟩:=hle.ents hil
   have hen:=hEl.len
   subst hA2
   by_cases h80:80<l[i].length
   ·have d8:decide ((80:Int)<(l[i].length:Int))=true:=decide_eq_true (by omega)
    have hR:=hyes.out i hil (by unfold CW;rw [decide_eq_true h80];rfl)
    subst hR
    go_wp2
    go_ret
    exact ⟨rfl,rfl⟩
   ·have d8:decide ((80:Int)<(l[i].length:Int))=false:=decide_eq_false (by omega)
    have hy2:=aa (fun j (hj:j<l[i].length) (hg:gE l[i][j]=true)=>hyes.out i hil (by unfold CW;rw [AQ hj hg,Bool.or_true]))
    have hn2:=aa (fun (h:∀ j (hj:j<l[i].length),gE l[i][j]=false)=>show ∀ k (hk:k<l.length),k<i+1→CW l[k]=false from fun k hk hki=>by
     by_cases hk2:k=i
     ·subst hk2;unfold CW;rw [decide_eq_false h80,AT h];rfl
     ·exact hinv.out k hk (by omega))
    clear hyes
    generalize l[i]=es at*
    go_wp2
    obtain ⟨wo,rfl⟩:∃ wo:World,wo=wr:=⟨_,rfl⟩
    go_loopw [4] (fun v4 wx=>∃ (j:Nat),v4=.int .i64 (j:Int)∧j≤es.length∧wx=wo∧Hid (∀ k (hk:k<es.length),k<j→gE es[k]=false)) (fun v4 _=>es.length-(RowKit.intOf v4).toNat)
    case atStart=>exact ⟨0,rfl,Hz _,rfl,aa (fun k _ h=>absurd h (Nat.not_lt_zero _))⟩
    case round=>
     obtain ⟨j,rfl,hj,rfl,hin⟩:=hrel
     by_cases hjl:j<es.length
     ·have hjz:(j:Int)<(es.length:Int):=by omega
      have dj:decide ((j:Int)<(es.length:Int))=true:=decide_eq_true hjz
      obtain ⟨xb,xo,P1,P2,d1,d2,hAE,hxb,x0,x1,x2,x3,x4,x5,hs1,hs2⟩:=hEl.ent hjl
      subst hAE
      have hgj:gE es[j]=(decide (10<es[j].pats.length) ||decide (10<es[j].run.args.length)):=rfl
      by_cases hp:10<es[j].pats.length
      ·have d1':decide ((10:Int)<(es[j].pats.length:Int))=true:=decide_eq_true (by omega)
       have hR:=hy2.out j hjl (by rw [hgj,decide_eq_true hp];rfl)
       subst hR
       go_wp2
       go_ret
       exact ⟨rfl,rfl⟩
      ·have d1':decide ((10:Int)<(es[j].pats.length:Int))=false:=decide_eq_false (by omega)
       by_cases ha:10<es[j].run.args.length
       ·have d2':decide ((10:Int)<(es[j].run.args.length:Int))=true:=decide_eq_true (by omega)
        have hR:=hy2.out j hjl (by rw [hgj,decide_eq_true ha,Bool.or_true])
        subst hR
        go_wp2
        go_ret
        exact ⟨rfl,rfl⟩
       ·have d2':decide ((10:Int)<(es[j].run.args.length:Int))=false:=decide_eq_false (by omega)
        have hgf:gE es[j]=false:=by rw [hgj,decide_eq_false hp,decide_eq_false ha];rfl
        have hin2:=aa (show ∀ k (hk:k<es.length),k<j+1→gE es[k]=false from fun k hk hkj=>by
         by_cases hk2:k=j
         ·subst hk2;exact hgf
         ·exact hin.out k hk (by omega))
        go_wp2
        go_roundw
        ·exact ⟨j+1,by go_num,hjl,by trivial,hin2⟩
        ·simp [RowKit.intOf];omega
     ·obtain rfl:j=es.length:=by omega
      have dj:decide ((es.length:Int)<(es.length:Int))=false:=decide_eq_false (by omega)
      have hfin:=aa (hn2.out (fun k hk=>hin.out k hk hk))
      go_wp2
      go_roundw
      ·exact ⟨i+1,by go_num,hil,by trivial,hfin⟩
      ·simp [RowKit.intOf];omega
  ·obtain rfl:i=l.length:=by omega
   have dk:decide ((l.length:Int)<(l.length:Int))=false:=decide_eq_false (by omega)
   have hR:=hno.out (fun k hk=>hinv.out k hk hk)
   subst hR
   go_wp2
   go_ret
   exact ⟨by go_num,rfl⟩
def nz:CR bn:=fun w B cs x=>∃ A1 c1 A2 c2,cs= [.int .u8 x.kind,.int .i64 x.sw,.int .i64 x.pos,.int .i64 x.e.tab,.slice A1 x.e.pats.length c1,.int .i64 x.e.len,.int .i64 x.e.prio,.int .i64 x.e.run.act,.slice A2 x.e.run.args.length c2]∧Sl 4 gT w B A1 x.e.pats∧Sl 2 f8 w B A2 x.e.run.args
theorem kL:f7 nz:=⟨fun ⟨A1,c1,A2,c2,e,h1,h2⟩ hk=>⟨A1,c1,A2,c2,e,h1.keep ay hk,h2.keep aq hk⟩,fun ⟨A1,c1,A2,c2,e,h1,h2⟩ hB=>⟨A1,c1,A2,c2,e,h1.more ay hB,h2.more aq hB⟩⟩
abbrev eV (A1:Option Addr) (c1:Nat) (A2:Option Addr) (c2:Nat) (x:bn):Value:=.agg #[.int .u8 x.kind,.int .i64 x.sw,.int .i64 x.pos,.int .i64 x.e.tab,.slice A1 x.e.pats.length c1,.int .i64 x.e.len,.int .i64 x.e.prio,.int .i64 x.e.run.act,.slice A2 x.e.run.args.length c2]
theorem Sl.chg {w:World} {B:Nat} {A:Option Addr} {xs:List bn} (h:Sl 9 nz w B A xs) {i:Nat} (hi:i<xs.length):∃ b o A1 A2 c1 c2,A=some ⟨b,o,none⟩∧b<B∧
  w.cell? ⟨b,o+i*9,none⟩=some (.int .u8 xs[i].kind)∧w.cell? ⟨b,o+i*9+1,none⟩=some (.int .i64 xs[i].sw)∧w.cell? ⟨b,o+i*9+2,none⟩=some (.int .i64 xs[i].pos)∧w.cell? ⟨b,o+i*9+3,none⟩=some (.int .i64 xs[i].e.tab)∧w.cell? ⟨b,o+i*9+4,none⟩=some (.slice A1 xs[i].e.pats.length c1)∧w.cell? ⟨b,o+i*9+5,none⟩=some (.int .i64 xs[i].e.len)∧w.cell? ⟨b,o+i*9+6,none⟩=some (.int .i64 xs[i].e.prio)∧w.cell? ⟨b,o+i*9+7,none⟩=some (.int .i64 xs[i].e.run.act)∧w.cell? ⟨b,o+i*9+8,none⟩=some (.slice A2 xs[i].e.run.args.length c2)∧Sl 4 gT w B A1 xs[i].e.pats∧Sl 2 f8 w B A2 xs[i].e.run.args:=by
 obtain ⟨b,o,ecs,hA,hb,hl,hc,A1,c1,A2,c2,rfl,h1,h2⟩:=h.2 i xs[i] (HA hi)
 exact ⟨b,o,A1,A2,c1,c2,hA,hb,hc 0 _ rfl,hc 1 _ rfl,hc 2 _ rfl,hc 3 _ rfl,hc 4 _ rfl,hc 5 _ rfl,hc 6 _ rfl,hc 7 _ rfl,hc 8 _ rfl,h1,h2⟩
def EL:Lp:=⟨[],[8],[⟨[],[],[],-1⟩],[⟨[9],[]⟩],[⟨[[⟨3,8,0,0,0,0⟩]],[2],[0],⟨0,[(0,0)]⟩⟩],[],[],[],[],[⟨#[109]⟩],[⟨#[102,119,100]⟩],[⟨#[116]⟩]⟩
def bO (w:World) (b:Nat) (l:List Value):Prop:=∀ (j:Nat) (u:Value),l[j]? =some u→w.cell? ⟨b,j,none⟩=some u
theorem bO.below {w W:World} {B b:Nat} {l:List Value} (h:bO w b l) (hb:Below B w W) (hl:b<B):bO W b l:=fun j u hu=>(hb.cell (p:=⟨b,j,none⟩) hl).trans (h j u hu)
theorem rJ {α:Type} {k:Nat} {R:CR α} {w:World} {B b:Nat} {ecs:List Value} {x:α} (h:bO w b ecs) (hb:b<B) (hk:ecs.length=k) (hR:R w B ecs x):Sl k R w B (some ⟨b,0,none⟩) [x]:=
 ⟨by simp [maxLen],fun i y hy=>by
  match i,hy with
  |0,hy=>cases hy;exact ⟨b,0,ecs,rfl,hb,hk,fun j u hu=>by simpa using h j u hu,hR⟩⟩
def sV (b:Nat):Value:=.slice (some ⟨b,0,none⟩) 1 1
def sN:Value:=.slice none 0 0
theorem Ef {w:World} {B n:Nat} (hB:n+15≤B) (h1:bO w (n+1) [.int .i64 8]) (h2:bO w (n+2) [sN,sN,sN,.int .i64 (-1)]) (h3:bO w (n+3) [.int .i64 9]) (h4:bO w (n+4) [sV (n+3),sN])
  (h6:bO w (n+6) [.int .u8 3,.int .i64 8,.int .i64 0,.int .i64 0,.int .u64 0,.int .u64 0]) (h7:bO w (n+7) [sV (n+6)]) (h8:bO w (n+8) [.int .u8 2]) (h9:bO w (n+9) [.int .i64 0]) (h10:bO w (n+10) [.int .u64 0,.int .u64 0])
  (h11:bO w (n+11) [sV (n+7),sV (n+8),sV (n+9),.int .i64 0,sV (n+10)]) (h12:bO w (n+12) [.string ⟨#[109]⟩]) (h13:bO w (n+13) [.string ⟨#[102,119,100]⟩]) (h14:bO w (n+14) [.string ⟨#[116]⟩]):
  cz w B none (some ⟨n+1,0,none⟩) (some ⟨n+2,0,none⟩) (some ⟨n+4,0,none⟩) (some ⟨n+11,0,none⟩) none none none none (some ⟨n+12,0,none⟩) (some ⟨n+13,0,none⟩) (some ⟨n+14,0,none⟩) EL where
 heads:=Sl.nil_
 metas:=rJ h1 (by omega) rfl rfl
 steps:=rJ h2 (by omega) rfl ⟨none,none,none,0,0,0,rfl,Sl.nil_,Sl.nil_,Sl.nil_,by decide⟩
 acts:=rJ h4 (by omega) rfl ⟨some ⟨n+3,0,none⟩,none,1,0,rfl,rJ h3 (by omega) rfl rfl,Sl.nil_⟩
 tabs:=rJ h11 (by omega) rfl ⟨some ⟨n+7,0,none⟩,some ⟨n+8,0,none⟩,some ⟨n+9,0,none⟩,some ⟨n+10,0,none⟩,1,1,1,1,rfl,rJ h7 (by omega) rfl ⟨some ⟨n+6,0,none⟩,1,rfl,rJ h6 (by omega) rfl ⟨rfl,⟨by decide,by decide⟩,⟨by decide,by decide⟩,⟨by decide,by decide⟩⟩⟩,rJ h8 (by omega) rfl rfl,rJ h9 (by omega) rfl rfl,rJ h10 (by omega) rfl ⟨rfl,⟨by decide,by decide⟩,⟨by decide,by decide⟩⟩,by decide,by decide⟩
 control:=Sl.nil_
 emit:=Sl.nil_
 nh:=Sl.nil_
 nf:=Sl.nil_
 nm:=rJ h12 (by omega) rfl ⟨rfl,by decide⟩
 na:=rJ h13 (by omega) rfl ⟨rfl,by decide⟩
 nt:=rJ h14 (by omega) rfl ⟨rfl,by decide⟩
theorem bU {W:World} {b:Nat} {l:List Value} {o:Obj} (hb:b<W.heap.size) (h:bO W b l):bO (W.alloc o) b l:=fun j u hu=>(World.cell?_alloc_past _ _ _ hb).trans (h j u hu)
theorem be {W:World} {b:Nat} {l:List Value} {t:TypeId} (hb:b=W.heap.size):bO (W.alloc (.cells l.toArray t)) b l:=fun j u hu=>by
 subst hb
 rw [World.cell?_alloc_at _ _ _ _ rfl]
 simpa using hu
theorem CX (A1 A2 A3 A4 A5 A6 A7 A8 A9 A10 A11 A12:Option Addr) (p:Lp) (c1 c2 c3 c4 c5 c6 c7 c8 c9 c10 c11 c12:Nat) (AE:Option Addr) (cE:Nat) (l:List (List aA)) (AC:Option Addr) (cC:Nat) (cs:List bn) (w:World) (h:cz w w.heap.size A1 A2 A3 A4 A5 A6 A7 A8 A9 A10 A11 A12 p) (hle:Sl 1 em w w.heap.size AE l) (hcs:Sl 9 nz w w.heap.size AC cs):
  Calls prog 5 #[.agg (aO A1 A2 A3 A4 A5 A6 A7 A8 A9 A10 A11 A12 p c1 c2 c3 c4 c5 c6 c7 c8 c9 c10 c11 c12),.slice AE l.length cE,.slice AC cs.length cC] w fun e w'=>(∃ b,e=.returned (.bool b)∧(b=false→ei l=false∧cs.length≤20))∧Below w.heap.size w w':=by
 unfold aO
 obtain ⟨wz,hwz,hsz,hbz,hcz,-⟩:=af w (aO A1 A2 A3 A4 A5 A6 A7 A8 A9 A10 A11 A12 p c1 c2 c3 c4 c5 c6 c7 c8 c9 c10 c11 c12) 33
 have lz:w.heap.size<wz.heap.size:=by omega
 have hC0:=hcs.len
 have hY:=aa (fun (W:World) (hW:Below wz.heap.size wz W)=>aF fun i=>(hW.cell (p:=⟨w.heap.size,i,none⟩) lz).trans (hcz i))
 have hG:=aa (fun (W:World) (hW:Below wz.heap.size wz W)=>tN A1 A2 A3 A4 A5 A6 A7 A8 A9 A10 A11 A12 p c1 c2 c3 c4 c5 c6 c7 c8 c9 c10 c11 c12 W ((h.below (hbz.trans (hW.mono hbz.size))).more (Hw hbz.size hW.size)))
 have hE:=aa (fun (W:World) (hW:Below wz.heap.size wz W)=>uZ AE cE l W ((hle.below bX (hbz.trans (hW.mono hbz.size))).more bX (Hw hbz.size hW.size)))
 have hSt:=aa (fun (W:World) (hW:Below wz.heap.size wz W)=>hcs.below kL (hbz.trans (hW.mono hbz.size)))
 have hfin:=aa (fun (W:World) (hW:Below wz.heap.size wz W)=>hbz.trans (hW.mono hbz.size))
 replace hsz:=aa hsz
 clear hcz hbz h hle hcs
 go_enter func5,ntmps5
 go_wp2
 go_loopw [8,11] (fun _ v11 wr=>∃ (i:Nat),v11=.int .i64 (i:Int)∧i≤cs.length∧Hid (Below wz.heap.size wz wr)) (fun _ v11 _=>cs.length-(RowKit.intOf v11).toNat)
 case atStart=>exact ⟨0,rfl,Hz _,aa (Hs _ _)⟩
 case round=>
  obtain ⟨i,rfl,hi,hT⟩:=hrel
  have hTz:=hT.out.size
  by_cases hil:i<cs.length
  ·have hiz:(i:Int)<(cs.length:Int):=by omega
   have dk:decide ((i:Int)<(cs.length:Int))=true:=decide_eq_true hiz
   obtain ⟨cb,co,D1,D2,c1',c2',hAC,hcb,x0,x1,x2,x3,x4,x5,x6,x7,x8,s1,s2⟩:=(hSt.out wr hT.out).chg hil
   subst hAC
   have hcbr:cb<wr.heap.size:=by omega
   obtain ⟨c,hc⟩:∃ c,c=cs[i]:=⟨_,rfl⟩
   rw [←hc] at x0 x1 x2 x3 x4 x5 x6 x7 x8 s1 s2
   clear hc
   obtain ⟨wx,hwx,hsx,hbx,hcx,-⟩:=af wr #[.int .u8 c.kind,.int .i64 c.sw,.int .i64 c.pos,.int .i64 c.e.tab,.slice D1 c.e.pats.length c1',.int .i64 c.e.len,.int .i64 c.e.prio,.int .i64 c.e.run.act,.slice D2 c.e.run.args.length c2'] 51
   have lx:wr.heap.size<wx.heap.size:=by omega
   obtain ⟨z0,z1,z2,z3,z4,z5,z6,z7,z8⟩:=bW hcx
   have hb1:Below wx.heap.size wx ((wx.alloc (.cells #[.int .i64 c.e.tab,.slice D1 c.e.pats.length c1',.int .i64 c.e.len,.int .i64 c.e.prio,.int .i64 c.e.run.act,.slice D2 c.e.run.args.length c2'] 49)).alloc (.cells #[.slice (some ⟨wx.heap.size,0,none⟩) 1 1] 38)):=((Hs _ _).alloc (Ht _) _).alloc (by simp) _
   have hbw:Below w.heap.size wr ((wx.alloc (.cells #[.int .i64 c.e.tab,.slice D1 c.e.pats.length c1',.int .i64 c.e.len,.int .i64 c.e.prio,.int .i64 c.e.run.act,.slice D2 c.e.run.args.length c2'] 49)).alloc (.cells #[.slice (some ⟨wx.heap.size,0,none⟩) 1 1] 38)):=(hbx.mono (by omega)).trans (hb1.mono (by omega))
   have hcall:=aa (uZ (some ⟨wx.heap.size+1,0,none⟩) 1 [[c.e]] _ (rJ (ecs:= [.slice (some ⟨wx.heap.size,0,none⟩) 1 1]) (be (by simp)) (by simp) rfl ⟨some ⟨wx.heap.size,0,none⟩,1,rfl,rJ (ecs:= [.int .i64 c.e.tab,.slice D1 c.e.pats.length c1',.int .i64 c.e.len,.int .i64 c.e.prio,.int .i64 c.e.run.act,.slice D2 c.e.run.args.length c2']) (bU (by simp) (be rfl)) (by simp<;>omega) rfl ⟨D1,c1',D2,c2',rfl,(s1.below ay hbw).more ay (by simp<;>omega),(s2.below aq hbw).more aq (by simp<;>omega)⟩⟩:Sl 1 em ((wx.alloc (.cells #[.int .i64 c.e.tab,.slice D1 c.e.pats.length c1',.int .i64 c.e.len,.int .i64 c.e.prio,.int .i64 c.e.run.act,.slice D2 c.e.run.args.length c2'] 49)).alloc (.cells #[.slice (some ⟨wx.heap.size,0,none⟩) 1 1] 38)) ((wx.alloc (.cells #[.int .i64 c.e.tab,.slice D1 c.e.pats.length c1',.int .i64 c.e.len,.int .i64 c.e.prio,.int .i64 c.e.run.act,.slice D2 c.e.run.args.length c2'] 49)).alloc (.cells #[.slice (some ⟨wx.heap.size,0,none⟩) 1 1] 38)).heap.size (some ⟨wx.heap.size+1,0,none⟩) [[c.e]]))
   have hB2:=aa (hT.out.trans ((hbx.mono hTz).trans (hb1.mono (by omega))))
   generalize ei [[c.e]]=GC at hcall
   replace hsx:=aa hsx
   clear hcx s1 s2 hb1 hbw hbx hSt hY hG hE
   generalize c.e.pats.length=pl at*
   generalize c.e.run.args.length=rl at*
   cases GC with
   |true=>
    go_wp2_with (go_at_call 14;refine hcall.out.mono ?_;rintro e w5 ⟨rfl,rfl⟩)
    go_ret
    exact ⟨⟨true,rfl,by simp⟩,hfin.out _ hB2.out⟩
   |false=>
    go_wp2_with (go_at_call 14;refine hcall.out.mono ?_;rintro e w5 ⟨rfl,rfl⟩)
    go_roundw
    ·exact ⟨i+1,by go_num,hil,hB2⟩
    ·simp [RowKit.intOf];omega
  ·obtain rfl:i=cs.length:=by omega
   have dk:decide ((cs.length:Int)<(cs.length:Int))=false:=decide_eq_false (by omega)
   have hGr:=hG.out wr hT.out
   obtain ⟨y0,y1,y2,y3,y4,y5,y6,y7,y8,y9,y10,y11⟩:=hY.out wr hT.out
   have ly:w.heap.size<wr.heap.size:=by omega
   have hEr:=aa (fun (W:World) (hW:Below wr.heap.size wr W)=>hE.out W (hT.out.trans (hW.mono hTz)))
   have hTr:=aa (fun (W:World) (hW:Below wr.heap.size wr W)=>hfin.out W (hT.out.trans (hW.mono hTz)))
   clear hG hE hY hSt
   by_cases h20:20<cs.length
   ·have d20:decide ((20:Int)<(cs.length:Int))=true:=decide_eq_true (by omega)
    have d20':decide (20<cs.length)=true:=decide_eq_true h20
    rcases hge:ei l with _|_
    all_goals (
     rw [hge] at hEr
     replace hge:=aa hge
     go_wp2_with (first|(go_at_call 15;refine hGr.mono ?_;rintro e w5 ⟨⟨g,rfl⟩,hb5⟩;cases g)|(go_at_call 14;refine (hEr.out _ hb5).mono ?_;rintro e w6 ⟨rfl,rfl⟩))
     all_goals go_ret
     all_goals exact ⟨⟨true,rfl,by simp⟩,hTr.out _ hb5⟩)
   ·have d20:decide ((20:Int)<(cs.length:Int))=false:=decide_eq_false (by omega)
    have d20':decide (20<cs.length)=false:=decide_eq_false h20
    rcases hge:ei l with _|_
    all_goals (
     rw [hge] at hEr
     replace hge:=aa hge
     go_wp2_with (first|(go_at_call 15;refine hGr.mono ?_;rintro e w5 ⟨⟨g,rfl⟩,hb5⟩;cases g)|(go_at_call 14;refine (hEr.out _ hb5).mono ?_;rintro e w6 ⟨rfl,rfl⟩))
     all_goals go_ret
     all_goals first
      |exact ⟨⟨true,rfl,by simp⟩,hTr.out _ hb5⟩
      |exact ⟨⟨false,rfl,fun _=>⟨hge.out,by omega⟩⟩,hTr.out _ hb5⟩)
def an (x:aA×Value×Value):List Value:= [.int .i64 x.1.tab,x.2.1,.int .i64 x.1.len,.int .i64 x.1.prio,.int .i64 x.1.run.act,x.2.2]
def pW (w:World) (B:Nat) (v:Value) (l:List aA):Prop:=∃ ps:List (aA×Value×Value),ps.map (·.1)=l∧w.ownsRow B 49 6 v ps.length (ps.flatMap an)∧∀ x∈ps,Ag w B x.2.1 x.1.pats∧nr w B x.2.2 x.1.run.args
theorem pW.nil_ (w:World) (B:Nat):pW w B (.slice none 0 0) []:=⟨[],rfl,World.ownsRow_nil _ _ _ _,fun x hx=>by simp at hx⟩
theorem pW.form {w:World} {B:Nat} {v:Value} {l:List aA} (h:pW w B v l):∃ A c,v=.slice A l.length c:=by
 obtain ⟨ps,rfl,h1,-⟩:=h
 obtain ⟨A,c,e⟩:=aR h1
 exact ⟨A,c,by rw [e,H4]⟩
theorem pW.grg {w w':World} {B g:Nat} {v:Value} {l:List aA} (h:pW w B v l) (hG:aE g w w') (hg:g<B):pW w' B v l:=by
 obtain ⟨ps,h0,h1,h2⟩:=h
 exact ⟨ps,h0,bd h1 hG hg,fun x hx=>⟨⟨(h2 x hx).1.1,bd (h2 x hx).1.2 hG hg⟩,⟨(h2 x hx).2.1,bd (h2 x hx).2.2 hG hg⟩⟩⟩
theorem pW.sl {w:World} {B:Nat} {v:Value} {l:List aA} (h:pW w B v l):∃ A c,v=.slice A l.length c∧Sl 6 eM w w.heap.size A l:=by
 obtain ⟨ps,rfl,h1,h2⟩:=h
 obtain ⟨A,c,rfl,hS⟩:=fK (R:=fun w B cs (x:aA×Value×Value)=>eM w B cs x.1) (f:=an) (fun _=>rfl) (fun x hx=>by
  obtain ⟨hp,hn⟩:=h2 x hx
  obtain ⟨A1,c1,e1,s1⟩:=hp.sl
  obtain ⟨A2,c2,e2,s2⟩:=hn.sl
  exact ⟨A1,c1,A2,c2,by unfold an;rw [e1,e2],s1,s2⟩) h1
 refine ⟨A,c,by rw [H4],by rw [H4];exact hS.1,fun i x hx=> ?_⟩
 rw [List.getElem?_map] at hx
 cases hp:ps[i]? with
 |none=>rw [hp] at hx;cases hx
 |some y=>
  rw [hp] at hx
  injection hx with hx
  subst hx
  exact hS.2 i y hp
structure eN (w:World) (B og:Nat) (vs:List Value) (out:List (List aA)):Prop where
 bx:w.heap[og]? =some (.cells vs.toArray 38 (0,0))
 ob:B≤og
 len:vs.length=out.length
 row:∀ (i:Nat) (v:Value) (l:List aA),vs[i]? =some v→out[i]? =some l→pW w B v l
 ne:∀ (i j:Nat) (v u:Value),i≠j→vs[i]? =some v→vs[j]? =some u→v.ownBlock=none∨v.ownBlock≠u.ownBlock
theorem eN.lt {w:World} {B og:Nat} {vs:List Value} {out:List (List aA)} (h:eN w B og vs out):og<w.heap.size:=aN h.bx
theorem eN.grg {w w':World} {B og g:Nat} {vs:List Value} {out:List (List aA)} (h:eN w B og vs out) (hG:aE g w w') (hg:g<B):eN w' B og vs out:=
 ⟨(hG.blk h.lt (by have:=h.ob;omega)).trans h.bx,h.ob,h.len,fun i v l a b=>(h.row i v l a b).grg hG hg,h.ne⟩
theorem eN.cell {w:World} {B og:Nat} {vs:List Value} {out:List (List aA)} (h:eN w B og vs out) {i:Nat} (hi:i<out.length):∃ A c,vs[i]? =some (.slice A (out.getD i []).length c)∧w.cell? ⟨og,i,none⟩=some (.slice A (out.getD i []).length c)∧w.frozen? ⟨og,i,none⟩=false:=by
 have hv:i<vs.length:=by rw [h.len];exact hi
 obtain ⟨A,c,e⟩:=(h.row i vs[i] out[i] (HA hv) (HA hi)).form
 have e2:out.getD i []=out[i]:=by rw [Iq,HA hi];rfl
 have e3:vs[i]? =some (.slice A (out.getD i []).length c):=by rw [HA hv,e,e2]
 exact ⟨A,c,e3,(aH h.bx i).trans (by simpa using e3),cm h.bx i⟩
theorem eN.sl {w:World} {B og:Nat} {vs:List Value} {out:List (List aA)} (h:eN w B og vs out) (hm:out.length≤maxLen):Sl 1 em w w.heap.size (some ⟨og,0,none⟩) out:=by
 refine ⟨hm,fun i l hl=> ?_⟩
 have hi:i<out.length:=(H1.1 hl).1
 have hv:i<vs.length:=by rw [h.len];exact hi
 obtain ⟨A,c,e,hS⟩:=(h.row i vs[i] l (HA hv) hl).sl
 refine ⟨og,0,[vs[i]],rfl,h.lt,rfl,fun j u hu=> ?_,A,c,by rw [e],hS⟩
 cases j with
 |zero=>
  simp at hu
  subst hu
  rw [Nat.mul_one,H3,Nat.add_zero,aH h.bx i]
  simp [hv]
 |succ j=>simp at hu
theorem pW.kept {w w':World} {B:Nat} {v:Value} {l:List aA} {row:Option Nat} (h:pW w B v l) (hg:w.grownBy w' row) (hK:CV 49 w w') (hne:v.ownBlock=none∨v.ownBlock≠row):pW w' B v l:=by
 obtain ⟨ps,h0,h1,h2⟩:=h
 exact ⟨ps,h0,World.ownsRow.kept h1 hg hne,fun x hx=>⟨⟨(h2 x hx).1.1,dm (h2 x hx).1.2 hK (by decide)⟩,⟨(h2 x hx).2.1,dm (h2 x hx).2.2 hK (by decide)⟩⟩⟩
theorem mE {w:World} {base k n og i:Nat} {e t:TypeId} {v u:Value} {xs:List Value} {cs:Array Value} {fr:Nat×Nat} (h:w.ownsRow base e k v n xs) (hk:w.heap[og]? =some (.cells cs t fr)) (hne:t≠e):(w.setCell ⟨og,i,none⟩ u).ownsRow base e k v n xs:=by
 refine ⟨h.1,?_⟩
 rcases h.2 with h2|⟨b,cap,cur,rfl,hb,hh,r⟩
 ·exact .inl h2
 ·refine .inr ⟨b,cap,cur,rfl,hb,?_,r⟩
  rw [ak]
  ·exact hh
  ·rintro rfl
   rw [hk] at hh
   injection hh with hh
   injection hh with h1 h2
   exact hne h2
theorem pW.setT {w:World} {B og i:Nat} {v u:Value} {l:List aA} {cs:Array Value} {fr:Nat×Nat} (h:pW w B v l) (hk:w.heap[og]? =some (.cells cs 38 fr)):pW (w.setCell ⟨og,i,none⟩ u) B v l:=by
 obtain ⟨ps,h0,h1,h2⟩:=h
 exact ⟨ps,h0,mE h1 hk (by decide),fun x hx=>⟨⟨(h2 x hx).1.1,mE (h2 x hx).1.2 hk (by decide)⟩,⟨(h2 x hx).2.1,mE (h2 x hx).2.2 hk (by decide)⟩⟩⟩
theorem eN.push {W:World} {B og i:Nat} {vs:List Value} {out:List (List aA)} {v v1 v2:Value} {e:aA} (h:eN W B og vs out) (hB:B≤W.heap.size) (hi:i<out.length) (hv:vs[i]? =some v) (h1:Ag W B v1 e.pats) (h2:nr W B v2 e.run.args) (hz:(out.getD i []).length<1000):
  ∃ v' w',(eh #[38,38] 38 #[v,.slice (some ⟨W.heap.size,0,none⟩) 1 1]).run prog (W.alloc (.cells #[.int .i64 e.tab,v1,.int .i64 e.len,.int .i64 e.prio,.int .i64 e.run.act,v2] 49))=.ok v' w'∧
   eN (w'.setCell ⟨og,i,none⟩ v') B og (vs.set i v') (out.set i (out.getD i []++ [e]))∧Below B W w'∧w'.cell? ⟨og,i,none⟩=some v∧w'.frozen? ⟨og,i,none⟩=false∧og<w'.heap.size:=by
 have hvi:i<vs.length:=by rw [h.len];exact hi
 have e2:out.getD i []=out[i]:=by rw [Iq,HA hi];rfl
 rw [e2] at hz ⊢
 obtain ⟨ps,p0,p1,p2⟩:=h.row i v out[i] hv (HA hi)
 obtain ⟨ii,hii,hzi0,hzi1,hzi2⟩:=info_parts eA
 have hlen:ps.length=out[i].length:=by rw [←p0,H4]
 have f1:∃ A c,v1=.slice A e.pats.length c:=aR h1.2
 have f2:∃ A c,v2=.slice A e.run.args.length c:=aR h2.2
 obtain ⟨A1,d1,f1⟩:=f1
 obtain ⟨A2,d2,f2⟩:=f2
 have hone:∀ u∈an (e,v1,v2),u.oneCell'=true:=fun u hu=>by
  simp [an] at hu
  rw [f1,f2] at hu
  rcases hu with rfl|rfl|rfl|rfl|rfl|rfl<;>rfl
 obtain ⟨v',w',hrun,q2,q3,_,q5⟩:=run_append_own_at (P:=prog) (W.alloc (.cells (an (e,v1,v2)).toArray 49)) B 38 38 49 ii _ 6 80 underlying38 hii hzi0 hzi1 hzi2 rfl (by omega) v ps.length _ (World.ownsRow.alloc p1 _) ⟨W.heap.size,0,none⟩ 1 1 (an (e,v1,v2)) rfl (World.news_of_block (cs:=(an (e,v1,v2)).toArray) (t:=49) (fr:=(0,0)) (heap_alloc_new W _)) hone (by simp [maxLen];omega) (by omega) (by simp;omega)
 have hb:Below B W w':=((Hs _ _).alloc hB _).grown q3 (by simp;omega) (fun g e=>(p1.lt g e).1)
 have hK:=mC p1 q3
 have hgW:W.grownBy w' v.ownBlock:=⟨q3.os,q3.tape,q3.output,Hw (by simp) q3.size,fun k hk hn=>(q3.block k (by simp;omega) hn).trans (((Hs W.heap.size W).alloc (Ht _) _).block k hk)⟩
 have hk':w'.heap[og]? =some (.cells vs.toArray 38 (0,0)):=hK _ _ _ _ h.bx (by decide)
 refine ⟨v',w',hrun,⟨?_,h.ob,by simp [h.len],?_,?_⟩,hb,(aH hk' i).trans (by simpa using hv),cm hk' i,aN hk'⟩
 ·rw [ax hk']
  simp
 ·intro j u l hu hl
  by_cases hj:i=j
  ·subst hj
   rw [Ic hvi] at hu
   rw [Ic hi] at hl
   injection hu with hu
   injection hl with hl
   subst hu hl
   refine pW.setT ⟨ps++ [(e,v1,v2)],by rw [List.map_append,p0];rfl,by simpa using q2,fun x hx=> ?_⟩ hk'
   rcases HZ.1 hx with hx|hx
   ·exact ⟨⟨(p2 x hx).1.1,dm (p2 x hx).1.2 hK (by decide)⟩,⟨(p2 x hx).2.1,dm (p2 x hx).2.2 hK (by decide)⟩⟩
   ·rw [List.mem_singleton] at hx
    subst hx
    exact ⟨⟨h1.1,dm h1.2 hK (by decide)⟩,⟨h2.1,dm h2.2 hK (by decide)⟩⟩
  ·rw [Ih hj] at hu hl
   exact ((h.row j u l hu hl).kept hgW hK (h.ne j i u v (Ne.symm hj) hu hv)).setT hk'
 ·have hfar:∀ (j:Nat) (u:Value),i≠j→vs[j]? =some u→(u.ownBlock=none∨u.ownBlock≠v'.ownBlock)∧(v'.ownBlock=none∨v'.ownBlock≠u.ownBlock):=fun j u hj hu=>by
   have hjl:j<out.length:=by rw [←h.len];exact (H1.1 hu).1
   obtain ⟨qs,-,r1,-⟩:=h.row j u out[j] hu (HA hjl)
   rcases q5 with q5|q5
   ·rw [q5]
    exact ⟨h.ne j i u v (Ne.symm hj) hu hv,h.ne i j v u hj hv hu⟩
   ·rw [q5]
    have hlt:∀ b,u.ownBlock=some b→b<W.heap.size:=fun b hb=>(r1.lt b hb).2
    refine ⟨?_,.inr ?_⟩
    ·cases ho:u.ownBlock with
     |none=>exact .inl rfl
     |some b=>right;intro e;injection e with e;have:=hlt b ho;simp at e;omega
    ·intro e
     have:=hlt _ e.symm
     simp at this
     omega
  intro a b x y hab hx hy
  by_cases ha:i=a
  ·subst ha
   rw [Ic hvi] at hx
   injection hx with hx
   subst hx
   rw [Ih hab] at hy
   exact (hfar b y hab hy).2
  ·rw [Ih ha] at hx
   by_cases hb':i=b
   ·subst hb'
    rw [Ic hvi] at hy
    injection hy with hy
    subst hy
    exact (hfar a x ha hx).1
   ·rw [Ih hb'] at hy
    exact h.ne a b x y hab hx hy
theorem oD (n:Nat):madeCells #[.slice none 0 0] n=(H8 n (Value.slice none 0 0)).toArray:=by
 apply Array.toList_inj.1
 rw [toList_madeCells_one]
theorem CY {k y n:Int} {l l':List Tk} {x:Pt} (h:pu k y l=some (x,n,l')):l'.length≤l.length:=by
 have q1:=bp l
 have q2:=bp (ai l)
 have q3:=bp (ai (ai l))
 unfold pu nn at h
 by_cases h1:cD [95] l=true
 ·rw [if_pos h1] at h
  split at h
  ·cases h
  ·cases h;exact q1
 ·rw [if_neg h1] at h
  by_cases h2:(ag l).kind=2
  ·rw [if_pos h2] at h
   simp only [HP] at h
   by_cases h3:cD [47] (ai l)=true
   ·rw [if_pos h3] at h
    by_cases h4:(ag (ai (ai l))).kind=2
    ·rw [if_pos h4] at h
     simp only [HP] at h
     split at h
     ·cases h;omega
     ·cases h
    ·rw [if_neg h4] at h;cases h
   ·rw [if_neg h3] at h
    by_cases h5:cD nW (ai l)=true
    ·rw [if_pos h5] at h
     by_cases h4:(ag (ai (ai l))).kind=2
     ·rw [if_pos h4] at h
      simp only [HP] at h
      split at h
      ·cases h;omega
      ·cases h
     ·rw [if_neg h4] at h;cases h
    ·rw [if_neg h5] at h
     split at h
     ·cases h;exact q1
     ·cases h
  ·rw [if_neg h2] at h;cases h
theorem rL {p:Lp} {t:fJ}:∀ (f:Nat) (acc xs:List Pt) (len L:Int) (ts r:List Tk),iW p t f acc len ts=some (xs,L,r)→r.length≤ts.length
 |0,_,_,_,_,_,_,h=>by cases h
 |f+1,acc,xs,len,L,ts,r,h=>by
  obtain ⟨-,x,n,l1,h1,h2⟩:=my h
  have q1:=CY h1
  have q2:=bp l1
  by_cases hi:cD [44] l1=true
  ·rw [if_pos hi] at h2
   have:=rL f _ _ _ _ _ _ h2
   omega
  ·rw [if_neg hi] at h2
   obtain ⟨-,-,rfl⟩:=h2
   exact q1
theorem rN {ps:List Int}:∀ (f:Nat) (acc xs:List (Int×Int)) (ts r:List Tk),ic ps f acc ts=some (xs,r)→r.length≤ts.length
 |0,_,_,_,_,h=>by cases h
 |f+1,acc,xs,ts,r,h=>by
  obtain ⟨-,-,-,h2⟩:=mw h
  have q1:=bp ts
  have q2:=bp (ai ts)
  by_cases hi:cD [44] (ai ts)=true
  ·rw [if_pos hi] at h2
   have:=rN f _ _ _ _ h2
   omega
  ·rw [if_neg hi] at h2
   obtain ⟨-,rfl⟩:=h2
   exact q1
theorem CZ {ps:List Int} {xs:List (Int×Int)} {ts r:List Tk} (h:tp ps ts=some (xs,r)):r.length≤ts.length:=by
 have q1:=bp ts
 unfold tp jR at h
 by_cases h1:cD [40] ts=true
 ·rw [if_pos h1] at h
  simp only [HP] at h
  cases hb:(if cD [41] (ai ts)=true then some ([],ai ts) else ic ps ((ai ts).length+1) [] (ai ts)) with
  |none=>rw [hb] at h;cases h
  |some y=>
   rw [hb] at h
   simp only [HP] at h
   have q2:y.2.length≤(ai ts).length:=by
    split at hb
    ·cases hb;exact Ht _
    ·exact rN _ _ y.1 _ y.2 hb
   have q3:=bp y.2
   split at h
   ·cases h;omega
   ·cases h
 ·rw [if_neg h1] at h;cases h
theorem C0 {p:Lp} {l l':List Tk} {e:aA} (h:qO p l=some (e,l')):l'.length≤l.length:=by
 obtain ⟨t,a,l1,l2,l3,l4,l5,hE⟩:=mA h
 have q1:=rL _ _ _ _ _ _ _ hE.b3
 have q2:=CZ hE.e2
 have q3:=bp l
 have q4:=bp (ai l)
 have q5:=bp (ai (ai l))
 have q6:=bp l3
 have q7:=bp (ai l3)
 have q8:=bp l5
 have q9:l3.length≤l2.length:=by
  have r1:=bp l2
  have r2:=bp (ai l2)
  rcases mz hE.c1 with ⟨-,-,-,-,h⟩|⟨-,-,h⟩
  ·rw [h];omega
  ·rw [h];exact Ht _
 have e1:=hE.b2
 have e2:=hE.e1
 have e3:=hE.e4
 rw [e1] at q1
 rw [e2] at q2
 rw [e3]
 omega
theorem xE {p:Lp} {sw:List ByteArray} {f:Nat} {out res:List (List aA)} {ts:List Tk} (h:np p sw (f+1) out ts=some res):
  ((ag ts).kind=0∧out=res)∨((ag ts).kind≠0∧B9 (ag ts)=true∧nX ts∈sw∧(out.getD (bo sw (nX ts)).toNat []).length<64∧∃ e l1,qO p (ai ts)=some (e,l1)∧np p sw f (out.set (bo sw (nX ts)).toNat (out.getD (bo sw (nX ts)).toNat []++ [e])) l1=some res):=by
 unfold np qL at h
 by_cases h0:(ag ts).kind=0
 ·rw [if_pos h0] at h
  cases h
  exact .inl ⟨h0,rfl⟩
 ·rw [if_neg h0] at h
  right
  by_cases h1:B9 (ag ts)=true∧nX ts∈sw
  ·rw [if_pos h1] at h
   simp only [HP] at h
   split at h
   ·rename_i h2
    cases he:qO p (ai ts) with
    |none=>rw [he] at h;cases h
    |some y=>
     rw [he] at h
     simp only [HP] at h
     exact ⟨h0,h1.1,h1.2,h2,y.1,y.2,rfl,h⟩
   ·cases h
  ·rw [if_neg h1] at h;cases h
theorem eN.made {W:World} {B:Nat} (n:Nat) (hB:B≤W.heap.size):eN (W.alloc (.cells (madeCells #[.slice none 0 0] n) 38)) B W.heap.size (H8 n (.slice none 0 0)) (H8 n []):=by
 refine ⟨by rw [heap_alloc_new,oD],hB,by simp,fun i v l hv hl=> ?_,fun i j v u _ hv _=> ?_⟩
 ·rw [List.getElem?_replicate] at hv hl
  split at hv
  ·rename_i hi
   rw [if_pos hi] at hl
   injection hv with hv
   injection hl with hl
   subst hv hl
   exact pW.nil_ _ _
  ·cases hv
 ·rw [List.getElem?_replicate] at hv
  split at hv
  ·injection hv with hv
   subst hv
   exact .inl rfl
  ·cases hv
end Go.Proofs.YtijcdfdbkffiaaaGreatDoor

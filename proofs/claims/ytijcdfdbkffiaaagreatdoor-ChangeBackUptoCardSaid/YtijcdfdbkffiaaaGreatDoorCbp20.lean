import Derived.Test.YtijcdfdbkffiaaaGreatDoorCbp19
import Derived.Lib.AppendZerosOnto
set_option linter.all false
set_option maxHeartbeats 16000000
set_option maxRecDepth 100000
open Go.Proofs.Tryz
namespace Go.Proofs.YtijcdfdbkffiaaaGreatDoor
open _root_.Nat renaming lt_of_lt_of_le→Hr, le_refl→Ht, le_trans→Hw, le_of_lt→HL, lt_succ_self→HV, lt_trans→HW, zero_add→H3
open _root_.Go.RowKit.Below renaming refl→Hs
open _root_.Go.Calls renaming regrown_of→Hv
open _root_.List renaming getElem?_eq_getElem→HA, getElem_mem→HE, length_append→HM, length_take→HO, length_drop→HR, getElem?_eq_some_iff→H1, length_map→H4, take_of_length_le→H6, take_length→H7, replicate→H8, flatMap_cons→Ia, getElem?_set_self→Ic, eq_nil_of_length_eq_zero→Ie, take_append_of_le_length→Il, drop_of_length_le→Im, flatMap_append→Io
open _root_.Go.Sort renaming grow→HG
open _root_.Int renaming eq_ofNat_of_zero_le→HH, toNat_natCast→HQ
open Go.RowKit
section
attribute [local go_sem] run_panic_iface
attribute [local go_sem ↓] cH
theorem C1 (A1 A2 A3 A4 A5 A6 A7 A8 A9 A10 A11 A12:Option Addr) (p:Lp) (c1 c2 c3 c4 c5 c6 c7 c8 c9 c10 c11 c12:Nat) (SW:Value) {g:Nat} {l l':List Tk} {e:aA} {mm:Int} (w:World) (h:bq w g l #[.slice A1 p.heads.length c1,.slice A2 p.metas.length c2,.slice A3 p.steps.length c3,.slice A4 p.acts.length c4,.slice A5 p.tabs.length c5,.slice A6 p.control.length c6,.slice A7 p.emit.length c7,.slice A8 p.nh.length c8,.slice A9 p.nf.length c9,.slice A10 p.nm.length c10,.slice A11 p.na.length c11,.slice A12 p.nt.length c12,SW]) (hg0:0<g) (hm:w.cell? ⟨0,0,none⟩=some (.int .i64 mm)) (hP:cz w g A1 A2 A3 A4 A5 A6 A7 A8 A9 A10 A11 A12 p) (hmay:bR p=true) (ho:qO p l=some (e,l')):
  Calls prog 164 #[.pointer (some ⟨g,0,none⟩)] w fun r w'=>∃ v1 v2,r=.returned (.agg #[.int .i64 e.tab,v1,.int .i64 e.len,.int .i64 e.prio,.int .i64 e.run.act,v2])∧Ag w' w.heap.size v1 e.pats∧nr w' w.heap.size v2 e.run.args∧aE g w w'∧bq w' g l' #[.slice A1 p.heads.length c1,.slice A2 p.metas.length c2,.slice A3 p.steps.length c3,.slice A4 p.acts.length c4,.slice A5 p.tabs.length c5,.slice A6 p.control.length c6,.slice A7 p.emit.length c7,.slice A8 p.nh.length c8,.slice A9 p.nf.length c9,.slice A10 p.nm.length c10,.slice A11 p.na.length c11,.slice A12 p.nt.length c12,SW]:=by
 have lt:=h.lt
 obtain ⟨t,a,l1,l2,l3,l4,l5,hE⟩:=mA ho
 obtain ⟨tab,pats,len,prio,act,args⟩:=e
 have ea1:=hE.a1
 have ea2:=hE.a2
 have ea3:=hE.a3
 have ea4:=hE.a4
 have ea5:=hE.a5
 have eb1:=hE.b1
 have eb2:=hE.b2
 have eb3:=hE.b3
 have eb4:=hE.b4
 have ec1:=hE.c1
 have ec2:=hE.c2
 have ed1:=hE.d1
 have ed2:=hE.d2
 have ed3:=hE.d3
 have ed4:=hE.d4
 have ed5:=hE.d5
 have ee1:=hE.e1
 have ee2:=hE.e2
 have ee3:=hE.e3
 have ee4:=hE.e4
 simp only at ea4 ea5 eb3 eb4 ec1 ed3 ed4 ed5 ee2 ⊢
 clear ho hE
 obtain ⟨hk0,hk1,rfl⟩:=tD ea5
 obtain ⟨k,rfl⟩:=HH hk0
 obtain ⟨hj0,hj1,rfl⟩:=tD ed5
 obtain ⟨j,rfl⟩:=HH hj0
 simp only [HQ] at hk1 hj1 eb3 eb4 ed4 ee2
 have htm:p.tabs[k]∈p.tabs:=HE hk1
 obtain ⟨tp1,tp2,tp3,tp4,tp5⟩:=jC ((fX hmay).2.2 _ htm)
 obtain ⟨ap1,ap2⟩:=tW hmay ed5
 simp only [HQ] at ap1 ap2
 have hkw:=aa (fun i (hi:i<p.tabs[k].keys.length)=>AO hmay htm hi)
 have hLp:=aa (fun (W:World) (hG:aE g w W)=>hP.grgE A1 A2 A3 A4 A5 A6 A7 A8 A9 A10 A11 A12 p c1 c2 c3 c4 c5 c6 c7 c8 c9 c10 c11 c12 hG lt)
 have hmK:=aa (fun (W:World) (hG:aE g w W)=>(hG.cell (i:=0) (by omega) (by omega)).trans hm)
 obtain ⟨tb,to',ecs,hA5,htb,hn5,hcell5,Q1,Q2,Q3,Q4,q1,q2,q3,q4,rfl,s1,s2,s3,s4,-,-⟩:=hP.tabs.2 k _ (HA hk1)
 have tc0:w.cell? ⟨tb,to'+k*5,none⟩=some (.slice Q1 p.tabs[k].keys.length q1):=hcell5 0 _ rfl
 have tc1:w.cell? ⟨tb,to'+k*5+1,none⟩=some (.slice Q2 p.tabs[k].kinds.length q2):=hcell5 1 _ rfl
 have tc2:w.cell? ⟨tb,to'+k*5+2,none⟩=some (.slice Q3 p.tabs[k].acts.length q3):=hcell5 2 _ rfl
 have tc3:w.cell? ⟨tb,to'+k*5+3,none⟩=some (.int .i64 p.tabs[k].run.act):=hcell5 3 _ rfl
 have tc4:w.cell? ⟨tb,to'+k*5+4,none⟩=some (.slice Q4 p.tabs[k].run.args.length q4):=hcell5 4 _ rfl
 obtain ⟨ab,ao,R1,R2,r1,r2,hA4,hab,ac0,ac1,s5,s6⟩:=hP.acts.act hj1
 
 have hW1:=aa (fun (W:World) (hR:bq W g l #[.slice A1 p.heads.length c1,.slice A2 p.metas.length c2,.slice A3 p.steps.length c3,.slice A4 p.acts.length c4,.slice A5 p.tabs.length c5,.slice A6 p.control.length c6,.slice A7 p.emit.length c7,.slice A8 p.nh.length c8,.slice A9 p.nf.length c9,.slice A10 p.nm.length c10,.slice A11 p.na.length c11,.slice A12 p.nt.length c12,SW])=>oe ⟨#[46]⟩ hR ea1)
 have hNm1:=aa (fun (W:World) (hG:aE g w W) (hR:bq W g (ai l) #[.slice A1 p.heads.length c1,.slice A2 p.metas.length c2,.slice A3 p.steps.length c3,.slice A4 p.acts.length c4,.slice A5 p.tabs.length c5,.slice A6 p.control.length c6,.slice A7 p.emit.length c7,.slice A8 p.nh.length c8,.slice A9 p.nf.length c9,.slice A10 p.nm.length c10,.slice A11 p.na.length c11,.slice A12 p.nt.length c12,SW])=>Ae (cap:=c12) hR hg0 (hmK.out W hG) ((hLp.out W hG).nt) ea2 ea3)
 rw [←ea4] at hNm1
 have hWd:=aa (fun (W:World) (hG:aE g w W) (hR:bq W g (ai (ai l)) #[.slice A1 p.heads.length c1,.slice A2 p.metas.length c2,.slice A3 p.steps.length c3,.slice A4 p.acts.length c4,.slice A5 p.tabs.length c5,.slice A6 p.control.length c6,.slice A7 p.emit.length c7,.slice A8 p.nh.length c8,.slice A9 p.nf.length c9,.slice A10 p.nm.length c10,.slice A11 p.na.length c11,.slice A12 p.nt.length c12,SW])=>AI A1 A2 A3 A4 A5 A6 A7 A8 A9 A10 A11 A12 p c1 c2 c3 c4 c5 c6 c7 c8 c9 c10 c11 c12 SW p.tabs[k] Q1 Q2 Q3 Q4 q1 q2 q3 q4 W hR (hLp.out W hG) (s1.grgE aV hG lt) (by omega))
 have hW2:=aa (fun (W:World) (hR:bq W g (ai (ai l)) #[.slice A1 p.heads.length c1,.slice A2 p.metas.length c2,.slice A3 p.steps.length c3,.slice A4 p.acts.length c4,.slice A5 p.tabs.length c5,.slice A6 p.control.length c6,.slice A7 p.emit.length c7,.slice A8 p.nh.length c8,.slice A9 p.nf.length c9,.slice A10 p.nm.length c10,.slice A11 p.na.length c11,.slice A12 p.nt.length c12,SW])=>oe ⟨#[58]⟩ hR eb1)
 rw [←eb2] at hW2
 have hW3:=aa (fun (W:World) (hR:bq W g l3 #[.slice A1 p.heads.length c1,.slice A2 p.metas.length c2,.slice A3 p.steps.length c3,.slice A4 p.acts.length c4,.slice A5 p.tabs.length c5,.slice A6 p.control.length c6,.slice A7 p.emit.length c7,.slice A8 p.nh.length c8,.slice A9 p.nf.length c9,.slice A10 p.nm.length c10,.slice A11 p.na.length c11,.slice A12 p.nt.length c12,SW])=>oe ⟨#[45,62]⟩ hR ec2)
 have hNm2:=aa (fun (W:World) (hG:aE g w W) (hR:bq W g (ai l3) #[.slice A1 p.heads.length c1,.slice A2 p.metas.length c2,.slice A3 p.steps.length c3,.slice A4 p.acts.length c4,.slice A5 p.tabs.length c5,.slice A6 p.control.length c6,.slice A7 p.emit.length c7,.slice A8 p.nh.length c8,.slice A9 p.nf.length c9,.slice A10 p.nm.length c10,.slice A11 p.na.length c11,.slice A12 p.nt.length c12,SW])=>Ae (cap:=c11) hR hg0 (hmK.out W hG) ((hLp.out W hG).na) ed1 ed2)
 rw [←ed3,←ee1] at hNm2
 have hAr:=aa (fun (W:World) (hG:aE g w W) (hR:bq W g l4 #[.slice A1 p.heads.length c1,.slice A2 p.metas.length c2,.slice A3 p.steps.length c3,.slice A4 p.acts.length c4,.slice A5 p.tabs.length c5,.slice A6 p.control.length c6,.slice A7 p.emit.length c7,.slice A8 p.nh.length c8,.slice A9 p.nf.length c9,.slice A10 p.nm.length c10,.slice A11 p.na.length c11,.slice A12 p.nt.length c12,SW])=>Ec (cap:=r1) hR (s5.grgE ah hG lt) ap2 (by omega) ee2)
 have hW4:=aa (fun (W:World) (hR:bq W g l5 #[.slice A1 p.heads.length c1,.slice A2 p.metas.length c2,.slice A3 p.steps.length c3,.slice A4 p.acts.length c4,.slice A5 p.tabs.length c5,.slice A6 p.control.length c6,.slice A7 p.emit.length c7,.slice A8 p.nh.length c8,.slice A9 p.nf.length c9,.slice A10 p.nm.length c10,.slice A11 p.na.length c11,.slice A12 p.nt.length c12,SW])=>oe ⟨#[59]⟩ hR ee3)
 rw [←ee4] at hW4
 have hKd:=aa (fun (W:World) (hG:aE g w W)=>s2.grgE cw hG lt)
 have hAc:=aa (fun (W:World) (hG:aE g w W)=>(s3.grgE ah hG lt))
 have hTc:=aa (fun (W:World) (hG:aE g w W)=>(⟨(hG.cell (HW htb lt) (Nat.ne_of_lt htb)).trans tc0,(hG.cell (HW htb lt) (Nat.ne_of_lt htb)).trans tc1,(hG.cell (HW htb lt) (Nat.ne_of_lt htb)).trans tc2,(hG.cell (HW htb lt) (Nat.ne_of_lt htb)).trans tc3,(hG.cell (HW htb lt) (Nat.ne_of_lt htb)).trans tc4⟩:W.cell? ⟨tb,to'+k*5,none⟩=some (.slice Q1 p.tabs[k].keys.length q1)∧W.cell? ⟨tb,to'+k*5+1,none⟩=some (.slice Q2 p.tabs[k].kinds.length q2)∧W.cell? ⟨tb,to'+k*5+2,none⟩=some (.slice Q3 p.tabs[k].acts.length q3)∧W.cell? ⟨tb,to'+k*5+3,none⟩=some (.int .i64 p.tabs[k].run.act)∧W.cell? ⟨tb,to'+k*5+4,none⟩=some (.slice Q4 p.tabs[k].run.args.length q4)))
 have hPc:=aa (fun (W:World) (hG:aE g w W)=>(hG.cell (HW hab lt) (Nat.ne_of_lt hab)).trans ac0)
 have hVc:=aa (fun (W:World) (lx:List Tk) (hR:bq W g lx #[.slice A1 p.heads.length c1,.slice A2 p.metas.length c2,.slice A3 p.steps.length c3,.slice A4 p.acts.length c4,.slice A5 p.tabs.length c5,.slice A6 p.control.length c6,.slice A7 p.emit.length c7,.slice A8 p.nh.length c8,.slice A9 p.nf.length c9,.slice A10 p.nm.length c10,.slice A11 p.na.length c11,.slice A12 p.nt.length c12,SW])=>hR.cells13)
 generalize (#[.slice A1 p.heads.length c1,.slice A2 p.metas.length c2,.slice A3 p.steps.length c3,.slice A4 p.acts.length c4,.slice A5 p.tabs.length c5,.slice A6 p.control.length c6,.slice A7 p.emit.length c7,.slice A8 p.nh.length c8,.slice A9 p.nf.length c9,.slice A10 p.nm.length c10,.slice A11 p.na.length c11,.slice A12 p.nt.length c12,SW]:Array Value)=V at*
 have hkz:(k:Int)<(p.tabs.length:Int):=by omega
 have hjz:(j:Int)<(p.acts.length:Int):=by omega
 have lt5:=hP.tabs.len
 have lt4:=hP.acts.len
 have hed4:=aa ed4
 have hb4:=aa eb4
 have hec1:=aa ec1
 have heb3:=aa eb3
 have htp:=aa (⟨tp2,tp3⟩:p.tabs[k].keys.length≤4∧p.tabs[k].kinds.length=p.tabs[k].keys.length)
 have hal:=aa ap1
 have hkinds:=(s2.len)
 have hrps:=s5.len
 subst hA5
 subst hA4
 generalize p.tabs[k]=t at*
 generalize p.acts[j]=a at*
 clear tc0 tc1 tc2 tc3 tc4 ac0 ac1 s1 s2 s3 s4 s5 s6 ea1 ea2 ea3 ea4 ea5 eb1 eb2 eb3 eb4 ec1 ec2 ed1 ed2 ed3 ed4 ed5 ee1 ee2 ee3 ee4 hk0 hj0 hcell5 hn5 tp1 tp2 tp3 tp4 tp5 ap1 ap2 htm hP hmK hLp hm hmay
 obtain ⟨wa,hwa,hsa,hba,-,-⟩:=af w #[.int .i64 0,.slice none 0 0,.int .i64 0,.int .i64 0,.int .i64 0,.slice none 0 0] 49
 have hS0:=aa (show gX w wa g l V 0 (.slice none 0 0) [] 0 0 0 (.slice none 0 0) [] from ⟨aE.of hba,h.below hba lt,by rw [←hwa];exact heap_alloc_new w _,⟨fun x hx=>by simp at hx,World.ownsRow_nil _ _ _ _⟩,⟨fun x hx=>by simp at hx,World.ownsRow_nil _ _ _ _⟩,lt⟩)
 replace hsa:=aa hsa
 clear hba h
 go_enter func164,ntmps164
 go_upto_region 2 with (go_at_call 189;refine (hW1.out _ hS0.out.rd).mono ?_;rintro e0 w1 ⟨rfl,hG1,hR1⟩)
 have hS1:=aa (hS0.out.step hG1 hR1)
 obtain ⟨y0,y1,y2,y3,y4,y5,y6,y7,y8,y9,y10,y11,y12⟩:=hVc.out _ _ hR1
 have ltr:=hR1.lt
 clear hG1 hR1 hS0 hW1 y0 y1 y2 y3 y4 y5 y6 y7 y8 y9 y10 y12
 go_upto_region 3 with (go_at_call 162;refine (hNm1.out _ hS1.out.grg hS1.out.rd).mono ?_;rintro e0 w2 ⟨rfl,hG2,hR2⟩;have hS2:=aa (hS1.out.step hG2 hR2);obtain ⟨z0,z1,z2,z3,z4,z5,f0,f1,f2,f3,f4,f5⟩:=hS2.out.cells;have bl2:=hS2.out.bl)
 have hS3:=aa (hS2.out.setTab (k:Int))
 clear hG2 hR2 hS1 hS2 hNm1 z0 z1 z2 z3 z4 z5 f0 f1 f2 f3 f4 f5 y11
 generalize w2.setCell ⟨w.heap.size,0,none⟩ (.int .i64 (k:Int))=w3 at hS3 ⊢
 obtain ⟨y0,y1,y2,y3,y4,y5,y6,y7,y8,y9,y10,y11,y12⟩:=hVc.out _ _ hS3.out.rd
 obtain ⟨z0,z1,z2,z3,z4,z5,f0,f1,f2,f3,f4,f5⟩:=hS3.out.cells
 obtain ⟨t0,t1,t2,t3,t4⟩:=hTc.out _ hS3.out.grg
 have bl3:=hS3.out.bl
 have ltr:=hS3.out.rd.lt
 have ltb:tb<w3.heap.size:=by omega
 clear bl2 y0 y1 y2 y3 y5 y6 y7 y8 y9 y10 y11 y12 z1 z2 z3 z4 z5 f0 f1 f2 f3 f4 f5
 go_region
 have hT4:=aa (show gY (w3.alloc (.cells #[.slice Q1 t.keys.length q1,.slice Q2 t.kinds.length q2,.slice Q3 t.acts.length q3,.int .i64 t.run.act,.slice Q4 t.run.args.length q4] 88)).drew w3.heap.size Q1 Q2 Q3 Q4 t q1 q2 q3 q4 from heap_alloc_new w3 _)
 have hS4:=aa (hS3.out.below (((Hs w3.heap.size w3).alloc (Ht _) (.cells #[.slice Q1 t.keys.length q1,.slice Q2 t.kinds.length q2,.slice Q3 t.acts.length q3,.int .i64 t.run.act,.slice Q4 t.run.args.length q4] 88)).drew))
 have hrT:g<w3.heap.size∧w.heap.size<w3.heap.size:=⟨ltr,bl3⟩
 generalize (w3.alloc (.cells #[.slice Q1 t.keys.length q1,.slice Q2 t.kinds.length q2,.slice Q3 t.acts.length q3,.int .i64 t.run.act,.slice Q4 t.run.args.length q4] 88)).drew=w4 at hT4 hS4 ⊢
 clear hS3 z0 t0 t1 t2 t3 t4 bl3 ltr ltb y4
 generalize w3.heap.size=rT at*
 obtain ⟨t0,t1,t2,t3,t4⟩:=hT4.out.cells
 have htl:=hT4.out.lt
 go_upto_region 5 with (go_at_call 190;refine (hWd.out _ hS4.out.grg hS4.out.rd).mono ?_;rintro e0 w5 ⟨vw,rfl,hws5,hb5⟩)
 obtain ⟨AW,cW,hvw⟩:=aR hws5
 rw [kK] at hvw
 subst hvw
 have hWs5:=aa (show oh w5 (w.heap.size+1) (.slice AW t.keys.length cW) (rE p t) from cM hws5 hS4.out.bl)
 have hS5:=aa (hS4.out.below hb5)
 have hT5:=aa (hT4.out.grg (g:=g) (aE.of hb5) (by omega))
 clear hS4 hT4 hws5 hb5 t0 t1 t2 t3 t4 htl hWd
 go_upto_region 6 with (go_at_call 189;refine (hW2.out _ hS5.out.rd).mono ?_;rintro e0 w6 ⟨rfl,hG6,hR6⟩)
 have hS6:=aa (hS5.out.step hG6 hR6)
 have hT6:=aa (hT5.out.grg hG6 (by omega))
 have hWs6:=aa (show oh w6 (w.heap.size+1) (.slice AW t.keys.length cW) (rE p t) from bd hWs5.out hG6 (by omega))
 clear hS5 hT5 hWs5 hG6 hR6 hW2
 go_wp2
 go_loopw [5,6,7] (fun v5 _ _ wr=>∃ (more:Bool) (acc:List Pt) (ln:Int) (lx:List Tk) (AP:Option Addr) (cP:Nat),v5=.bool more∧Hid (gX w wr g lx V (k:Int) (.slice AP acc.length cP) acc ln 0 0 (.slice none 0 0) [])∧Hid (gY wr rT Q1 Q2 Q3 Q4 t q1 q2 q3 q4)∧Hid (oh wr (w.heap.size+1) (.slice AW t.keys.length cW) (rE p t))∧Hid (0≤ln∧ln≤(acc.length:Int)*128∧acc.length≤t.keys.length)∧Hid (more=true→∃ f,iW p t f acc ln lx=some (pats,len,l2))∧Hid (more=false→pats=acc∧len=ln∧l2=lx)) (fun _ _ _ wr=>qZ g wr)
 case atStart=>exact ⟨true,[],0,l1,none,0,rfl,hS6,hT6,hWs6,aa ⟨by omega,by simp,by simp⟩,aa (fun _=>⟨_,heb3.out⟩),aa (fun hq=>by cases hq)⟩
 case round=>
  clear hS6 hT6 hWs6 heb3
  obtain ⟨more,acc,ln,lx,AP,cP,rfl,hS,hT,hWs,hln,hmt,hmf⟩:=hrel
  cases more with
  |true=>
   obtain ⟨f,hf⟩:=hmt.out rfl
   clear hmt hmf
   cases f with
   |zero=>cases hf
   |succ f=>
    obtain ⟨hac,x,n,lx1,hpo,hnx⟩:=my hf
    have hl0:=hS.out.rd.left
    have hwy:=hkw.out _ hac
    obtain ⟨okx,hn0,hn1,hles⟩:=tS hS.out.rd.1 hwy hpo
    have hkl:acc.length<t.kinds.length:=by have:=htp.out.2;omega
    have hacz:(acc.length:Int)<(t.keys.length:Int):=by omega
    have hkdz:(acc.length:Int)<(t.kinds.length:Int):=by omega
    have dac:decide ((acc.length:Int)<(t.keys.length:Int))=true:=decide_eq_true hacz
    have hpat:=aa (fun (W:World) (hR:bq W g lx V)=>EX hR hwy hpo)
    rw [tQ hkl] at hpat
    obtain ⟨kb,ko,hQ2,hkb,-⟩:=(hKd.out wr hS.out.grg).byte hkl
    have hkc:=aa (fun (W:World) (hG:aE g w W)=>show W.cell? ⟨kb,ko+acc.length,none⟩=some (.int .u8 t.kinds[acc.length]) from by
     obtain ⟨kb',ko',hQ',hkb',hc'⟩:=(hKd.out W hG).byte hkl
     rw [hQ2] at hQ'
     injection hQ' with hQ'
     injection hQ' with e1 e2 e3
     subst e1 e2
     exact hc')
    obtain ⟨wb,hAW,hwb0,hwb1,-⟩:=hWs.out.at_ (i:=acc.length) (by rw [kK];exact hac)
    have hwc:=aa (fun (W:World) (hW:oh W (w.heap.size+1) (.slice AW t.keys.length cW) (rE p t))=>show wb<W.heap.size∧W.cell? ⟨wb,acc.length,none⟩=some (.int .i64 (qp p t acc.length)) from by
     obtain ⟨wb',hA',-,hb',hc'⟩:=hW.at_ (i:=acc.length) (by rw [kK];exact hac)
     rw [hAW] at hA'
     injection hA' with hA'
     injection hA' with e1 e2 e3
     subst e1
     have h9:=Ed (p:=p) hac
     rw [HA (by rw [kK];exact hac)] at h9
     injection h9 with h9
     rw [h9] at hc'
     exact ⟨hb',hc'⟩)
    subst hQ2
    subst hAW
    have hlns:=hln.out
    have hwr1:IntKind.i64.wrap (ln+n)=ln+n:=by rw [IntKind.wrap_i64];have:=htp.out.1;omega
    have hln2:=aa (show 0≤ln+n∧ln+n≤((acc++ [x]).length:Int)*128∧(acc++ [x]).length≤t.keys.length from ⟨by omega,by rw [HM,List.length_singleton];omega,by rw [HM,List.length_singleton];omega⟩)
    generalize t.kinds[acc.length]=kd at hpat hkc
    generalize qp p t acc.length=yw at hpat hwc hwy
    replace hnx:=aa hnx
    replace okx:=aa okx
    replace hln:=aa hln.out
    clear hf hpo hlns
    obtain ⟨b',o',cp',hO⟩:=hS.out.rd.open_
    obtain ⟨ltr,bg,pos,le,ml,d0,df,k0,k1,k2,k3,k4,k5⟩:=hO
    obtain ⟨z0,z1,z2,z3,z4,z5,zf⟩:=hS.out.cells
    have bl:=hS.out.bl
    have hbl:b'<wr.heap.size:=by omega
    have lz:(0:Int)<(lx.length:Int):=by omega
    have hA:=aa (fun (W:World)=>bi (ag lx) 5 W)
    generalize ag lx=tq at k0 k1 k2 k3 k4 k5 hA
    obtain ⟨kq,sq,wq,mq,pq⟩:=tq
    unfold iF at hA
    simp only at k0 k1 k2 k3 k4 k5 hA
    generalize (⟨sq.toArray⟩:ByteArray)=SQ at k1 hA
    generalize ((mq / 18446744073709551616:Nat):Int)=hiq at k3 hA
    generalize ((mq % 18446744073709551616:Nat):Int)=loq at k4 hA
    have hgw:=aS (show Below wr.heap.size wr wr from Hs _ _) (Ht _)
    clear z0 z2 z3 z4 z5 zf df
    go_wp2_with fail
    refine cR ?_
    repeat (any_goals (first|go_big_quiet_step ((go_at_call 163;with_reducible exact Hv (hA.out _)))|quiet_step ((go_at_call 163;with_reducible exact Hv (hA.out _)))))
    refine wpQuiet_nil ?_
    intro w7 hw7
    replace hw7:=ac hw7
    have hS7:=aa (hS.out.below hw7)
    have hT7:=aa (hT.out.grg (g:=g) (aE.of hw7) (by omega))
    have hWs7:=aa (show oh w7 (w.heap.size+1) (.slice (some ⟨wb,0,none⟩) t.keys.length cW) (rE p t) from bd hWs.out (aE.of (g:=g) hw7) (by omega))
    clear hgw k0 k1 k2 k3 k4 k5 d0 z1 bl hA hbl lz bg pos le ml ltr hS hT hWs hw7
    obtain ⟨z0,z1,z2,z3,z4,z5,zf⟩:=hS7.out.cells
    obtain ⟨t0,t1,t2,t3,t4⟩:=hT7.out.cells
    have kc:=hkc.out w7 hS7.out.grg
    obtain ⟨wl,wc'⟩:=hwc.out w7 hWs7.out
    have bl7:=hS7.out.bl
    have tl7:=hT7.out.lt
    have ltr:=hS7.out.rd.lt
    have kl7:kb<w7.heap.size:=by omega
    have n1:w.heap.size≠g:=by omega
    have n2:rT≠g:=by omega
    have n3:kb≠g:=by omega
    have n4:wb≠g:=by omega
    have n5:w7.heap.size≠g:=by omega
    have hX:=aa (fun (W:World) (hW:Below w7.heap.size w7 W)=>(hpat.out W (hS7.out.rd.below hW ltr)).mono fun e0 w' h=>(⟨h.1,(aE.of hW).trans h.2.1,h.2.1,h.2.2⟩:_∧aE g w7 w'∧aE g W w'∧bq w' g lx1 V))
    clear hpat z0 z2 z3 z4 z5 zf t0 t2 t3 t4
    go_upto_region 9 with fail
    go_cut [6,7] (fun sp lv wx=>∃ b,sp=.pointer (some ⟨b,0,none⟩)∧lv=.int .i64 n∧Hid (pD w7 wx g lx1 V b x))
    case first=>
     go_region_held3 (fun w'=>aE g w7 w'∧∀ b o,b<w7.heap.size→b≠g→w'.cell? ⟨b,o,none⟩=w7.cell? ⟨b,o,none⟩) (first|exact oC (aE.of (Hs _ _).drew)|exact oC (aE.of ((Hs _ _).drew.alloc (Ht _) _))|(with_reducible exact oC hG9)|(with_reducible exact oC (hG9.trans (aE.of ((Hs _ _).alloc (Ht _) _))))|(with_reducible exact oC (pD.new hG9 hR9 x).grg)|(with_reducible exact oC (pD.set rfl hG9 hG9' ltr hR9 x).grg))
      ((go_at_call 191;refine (hX.out _ (by first|exact (Hs _ _).drew|exact (Hs _ _).drew.alloc (Ht _) _)).mono ?_;rintro e0 w9 ⟨rfl,hG9,hG9',hR9⟩;have kb9:=Ee hG9'))
     all_goals go_wp2
     all_goals go_meet
     all_goals first
      |exact ⟨_,rfl,rfl,aa (pD.new hG9 hR9 x)⟩
      |exact ⟨_,rfl,rfl,aa (pD.set rfl hG9 hG9' ltr hR9 x)⟩
    case rest=>
     obtain ⟨b,rfl,rfl,hN⟩:=hcut
     obtain ⟨w8,rfl⟩:∃ w8:World,w8=wc:=⟨_,rfl⟩
     have hS8:=aa (hS7.out.step hN.out.grg hN.out.rd)
     have hT8:=aa (hT7.out.grg hN.out.grg (by omega))
     have hWs8:=aa (show oh w8 (w.heap.size+1) (.slice (some ⟨wb,0,none⟩) t.keys.length cW) (rE p t) from bd hWs7.out hN.out.grg (by omega))
     obtain ⟨p0,p1,p2,p3,-⟩:=hN.out.bx.cells
     have pbl:=hN.out.bx.lt
     clear hX hS7 hT7 hWs7 z1 t1 kc wc' bl7 tl7 kl7 wl n1 n2 n3 n4 n5 hN ltr
     obtain ⟨z0,z1,z2,z3,z4,z5,f0,f1,f2,f3,f4,f5⟩:=hS8.out.cells
     have bl8:=hS8.out.bl
     obtain ⟨v',wA,hrun,hPA,hbA,hKA⟩:=tT (W:=w8.drew) (base:=w.heap.size+1) x okx.out (show Ag w8.drew _ _ _ from hS8.out.ps) bl8 (by have:=hln.out.2.2;have:=htp.out.1;omega)
     obtain ⟨AN,cN,hvN⟩:∃ A c,v'=.slice A (acc.length+1) c:=by
      obtain ⟨A,c,h⟩:=aR hPA.2
      exact ⟨A,c,by rw [h];simp⟩
     subst hvN
     replace hrun:(eh #[44,44] 44 #[.slice AP acc.length cP,.slice (some ⟨w8.heap.size,0,none⟩) 1 1]).run prog (w8.alloc (.cells #[.int .u64 x.vh,.int .u64 x.vl,.int .u64 x.mh,.int .u64 x.ml] 101)).drew=.ok (.slice AN (acc.length+1) cN) wA:=hrun
     have hbA8:Below (w.heap.size+1) w8 wA:=(Hs _ _).drew.trans hbA
     have kA:=ae hbA8
     have e1:=(kA.1 _ 1 (HV _)).trans z1
     have e2:=(kA.1 _ 2 (HV _)).trans z2
     have h1:=(kA.2 _ 1 (HV _)).trans f1
     have h2:=(kA.2 _ 2 (HV _)).trans f2
     have eb:=Hr bl8 hbA8.size
     have hS10:=aa (hS8.out.setPat hbA8 ⟨hS8.out.nu.1,dm (w:=w8.drew) hS8.out.nu.2 hKA (by decide)⟩ hPA (ln+n))
     have hT10:=aa (show gY ((wA.setCell ⟨w.heap.size,1,none⟩ (.slice AN (acc.length+1) cN)).setCell ⟨w.heap.size,2,none⟩ (.int .i64 (ln+n))) rT Q1 (some ⟨kb,ko,none⟩) Q3 Q4 t q1 q2 q3 q4 from by
      unfold gY
      rw [ak (by omega),ak (by omega)]
      exact hKA _ _ _ _ hT8.out (by decide))
     have hWs10:=aa (show oh ((wA.setCell ⟨w.heap.size,1,none⟩ (.slice AN (acc.length+1) cN)).setCell ⟨w.heap.size,2,none⟩ (.int .i64 (ln+n))) (w.heap.size+1) (.slice (some ⟨wb,0,none⟩) t.keys.length cW) (rE p t) from ownsRow_setCell_below (ownsRow_setCell_below (dm (w:=w8.drew) hWs8.out hKA (by decide)) (HV _) _) (HV _) _)
     clear hS8 hT8 hWs8 hPA hbA hKA hbA8 kA z0 z3 z4 z5 f0 f1 f2 f3 f4 f5
     go_wp2_with fail
     go_region
     clear hrun e1 e2 h1 h2 eb z1 z2 bl8 p0 p1 p2 p3 pbl
     generalize ((wA.setCell ⟨w.heap.size,1,none⟩ (.slice AN (acc.length+1) cN)).setCell ⟨w.heap.size,2,none⟩ (.int .i64 (ln+n)))=w10 at hS10 hT10 hWs10 ⊢
     have hI:=tB ⟨#[44]⟩ hS10.out.rd
     cases h44:cD [44] lx1 with
     |true=>
      rw [show cD (⟨#[44]⟩:ByteArray).data.toList lx1=true from h44] at hI
      replace hI:=aa hI
      have hn1:=hnx.out
      rw [if_pos h44] at hn1
      replace hn1:=aa hn1
      have hle2:=bp lx1
      have hNt:=aa (fun (W:World) (hW:bq W g lx1 V)=>iY hW)
      generalize ag lx1=t2 at hNt
      obtain ⟨k2,s2,wd2,m2,pl2⟩:=t2
      unfold iF at hNt
      simp only at hNt
      generalize (⟨s2.toArray⟩:ByteArray)=SS2 at hNt
      generalize ((m2 / 18446744073709551616:Nat):Int)=hi2 at hNt
      generalize ((m2 % 18446744073709551616:Nat):Int)=lo2 at hNt
      clear hnx h44
      go_upto_region 13 with (go_at_call 192;refine hI.out.mono ?_;rintro e0 w11 ⟨rfl,hb11⟩)
      have hS11:=aa (hS10.out.below hb11)
      have hT11:=aa (hT10.out.grg (g:=g) (aE.of hb11) (by omega))
      have hWs11:=aa (show oh w11 (w.heap.size+1) (.slice (some ⟨wb,0,none⟩) t.keys.length cW) (rE p t) from bd hWs10.out (aE.of (g:=g) hb11) (by omega))
      clear hS10 hT10 hWs10 hI hb11
      go_wp2_with (go_at_call 187;refine (hNt.out _ hS11.out.rd).mono ?_;rintro e0 w12 ⟨rfl,hG12,hR12⟩)
      have hl12:=hR12.left
      have hS12:=hS11.out.step hG12 hR12
      have hWs12:oh w12 (w.heap.size+1) (.slice (some ⟨wb,0,none⟩) t.keys.length cW) (rE p t):=bd hWs11.out hG12 (by omega)
      go_roundw
      case rel=>exact ⟨true,acc++ [x],ln+n,ai lx1,AN,cN,rfl,aa (by rw [HM,List.length_singleton];exact hS12),aa (hT11.out.grg hG12 (by omega)),aa hWs12,hln2,aa (fun _=>⟨f,hn1.out⟩),aa (fun hq=>by cases hq)⟩
      case measure=>rw [hl0,hl12];omega
     |false=>
      rw [show cD (⟨#[44]⟩:ByteArray).data.toList lx1=false from h44] at hI
      replace hI:=aa hI
      have hn1:=hnx.out
      rw [if_neg (by rw [h44];decide)] at hn1
      replace hn1:=aa hn1
      clear hnx h44
      go_wp2_with (go_at_call 192;refine hI.out.mono ?_;rintro e0 w11 ⟨rfl,hb11⟩)
      have hS11:=hS10.out.below hb11
      have hl12:=hS11.rd.left
      have hWs11:oh w11 (w.heap.size+1) (.slice (some ⟨wb,0,none⟩) t.keys.length cW) (rE p t):=bd hWs10.out (aE.of (g:=g) hb11) (by omega)
      go_roundw
      case rel=>exact ⟨false,acc++ [x],ln+n,lx1,AN,cN,rfl,aa (by rw [HM,List.length_singleton];exact hS11),aa (hT10.out.grg (g:=g) (aE.of hb11) (by omega)),aa hWs11,hln2,aa (fun hq=>by cases hq),aa (fun _=>⟨hn1.out.1.symm,hn1.out.2.1.symm,hn1.out.2.2.symm⟩)⟩
      case measure=>rw [hl0,hl12];omega
  |false=>
   obtain ⟨e1,e2,e3⟩:=hmf.out rfl
   subst e1 e2 e3
   clear hmt hmf hWs hln hKd hkw
   obtain ⟨b',o',cp',hO⟩:=hS.out.rd.open_
   obtain ⟨ltr,bg,pos,le,ml,d0,df,k0,k1,k2,k3,k4,k5⟩:=hO
   obtain ⟨z0,z1,z2,z3,z4,z5,zf⟩:=hS.out.cells
   have bl:=hS.out.bl
   have hbl:b'<wr.heap.size:=by omega
   have lz:(0:Int)<(l2.length:Int):=by omega
   have dle:((pats.length:Int)==(t.keys.length:Int))=true:=by rw [beq_iff_eq];have:=hb4.out;omega
   have hA:=aa (fun (W:World)=>bi (ag l2) 13 W)
   generalize ag l2=tq at k0 k1 k2 k3 k4 k5 hA
   obtain ⟨kq,sq,wq,mq,pq⟩:=tq
   unfold iF at hA
   simp only at k0 k1 k2 k3 k4 k5 hA
   generalize (⟨sq.toArray⟩:ByteArray)=SQ at k1 hA
   generalize ((mq / 18446744073709551616:Nat):Int)=hiq at k3 hA
   generalize ((mq % 18446744073709551616:Nat):Int)=loq at k4 hA
   have hgw:=aS (show Below wr.heap.size wr wr from Hs _ _) (Ht _)
   clear z0 z2 z3 z4 z5 zf df
   go_wp2_with fail
   refine cR ?_
   repeat (any_goals (first|go_big_quiet_step ((go_at_call 163;with_reducible exact Hv (hA.out _)))|quiet_step ((go_at_call 163;with_reducible exact Hv (hA.out _)))))
   refine wpQuiet_nil ?_
   intro w7 hw7
   replace hw7:=ac hw7
   have hS7:=aa (hS.out.below hw7)
   have hT7:=aa (hT.out.grg (g:=g) (aE.of hw7) (by omega))
   clear hgw k0 k1 k2 k3 k4 k5 d0 z1 bl hA hbl lz bg pos le ml ltr hS hT hw7
   have hI:=tB ⟨#[112,114,105,111]⟩ hS7.out.rd
   rcases mz hec1.out with ⟨i1,i2,i3,i4,i5⟩|⟨i1,i4,i5⟩
   ·rw [show cD (⟨#[112,114,105,111]⟩:ByteArray).data.toList l2=true from i1] at hI
    replace hI:=aa hI
    have hNt:=aa (fun (W:World) (hW:bq W g l2 V)=>iY hW)
    have hNu:=aa (fun (W:World) (hW:bq W g (ai l2) V)=>fW hW i2)
    have hPl:=aa (fun (W:World)=>Af (ag (ai l2)) 65536 W i3 (by decide) (by decide))
    rw [←i4] at hPl
    rw [←i5] at hNu
    clear i1 i2 i3 i4 i5
    generalize ag l2=t2 at hNt
    obtain ⟨k2,s2,wd2,m2,pl2⟩:=t2
    unfold iF at hNt
    simp only at hNt
    generalize (⟨s2.toArray⟩:ByteArray)=SS2 at hNt
    generalize ((m2 / 18446744073709551616:Nat):Int)=hi2 at hNt
    generalize ((m2 % 18446744073709551616:Nat):Int)=lo2 at hNt
    generalize ag (ai l2)=t3 at hNu hPl
    obtain ⟨k3,s3,wd3,m3,pl3⟩:=t3
    unfold iF at hNu hPl
    simp only at hNu hPl
    generalize (⟨s3.toArray⟩:ByteArray)=SS3 at hNu hPl
    generalize ((m3 / 18446744073709551616:Nat):Int)=hi3 at hNu hPl
    generalize ((m3 % 18446744073709551616:Nat):Int)=lo3 at hNu hPl
    go_upto_region 16 with (go_at_call 192;refine hI.out.mono ?_;rintro e0 w8 ⟨rfl,hb8⟩)
    have hS8:=aa (hS7.out.below hb8)
    have hT8:=aa (hT7.out.grg (g:=g) (aE.of hb8) (by omega))
    clear hS7 hT7 hI hb8
    go_upto_region 17 with (go_at_call 187;refine (hNt.out _ hS8.out.rd).mono ?_;rintro e0 w9 ⟨rfl,hG9,hR9⟩)
    have hS9:=aa (hS8.out.step hG9 hR9)
    have hT9:=aa (hT8.out.grg hG9 (by omega))
    clear hS8 hT8 hNt hG9 hR9
    go_upto_region 18 with (first|(go_at_call 194;refine (hNu.out _ hS9.out.rd).mono ?_;rintro e0 w10 ⟨rfl,hG10,hR10⟩;have hS10:=aa (hS9.out.step hG10 hR10);have hT10:=aa (hT9.out.grg hG10 (by omega)))|(go_at_call 193;refine (hPl.out _).mono ?_;rintro e0 w11 ⟨rfl,hb11⟩;have hS11:=aa (hS10.out.below hb11);have hT11:=aa (hT10.out.grg (g:=g) (aE.of hb11) (by omega));obtain ⟨z0,z1,z2,z3,z4,z5,f0,f1,f2,f3,f4,f5⟩:=hS11.out.cells;have bl11:=hS11.out.bl))
    have hS12:=aa (hS11.out.setPrio prio)
    have hT12:=aa (show gY (w11.setCell ⟨w.heap.size,3,none⟩ (.int .i64 prio)) rT Q1 Q2 Q3 Q4 t q1 q2 q3 q4 from by unfold gY;rw [ak (by omega)];exact hT11.out)
    clear hS9 hT9 hS10 hT10 hS11 hT11 hNu hPl hG10 hR10 hb11 z0 z1 z2 z3 z4 z5 f0 f1 f2 f3 f4 f5 bl11
    generalize w11.setCell ⟨w.heap.size,3,none⟩ (.int .i64 prio)=w12 at hS12 hT12 ⊢
    go_upto_region 19 with (go_at_call 189;refine (hW3.out _ hS12.out.rd).mono ?_;rintro e0 w13 ⟨rfl,hG13,hR13⟩)
    have hS13:=aa (hS12.out.step hG13 hR13)
    have hT13:=aa (hT12.out.grg hG13 (by omega))
    clear hS12 hT12 hG13 hR13 hW3
    obtain ⟨b',o',cp',hO⟩:=hS13.out.rd.open_
    obtain ⟨ltr,bg,pos,le,ml,d0,df,k0,k1,k2,k3,k4,k5⟩:=hO
    have hbl:b'<w13.heap.size:=by omega
    have lz:(0:Int)<((ai l3).length:Int):=by omega
    have hA:=aa (fun (W:World)=>bi (ag (ai l3)) 7 W)
    generalize ag (ai l3)=tq at k0 k1 k2 k3 k4 k5 hA
    obtain ⟨kq,sq,wq,mq,pq⟩:=tq
    unfold iF at hA
    simp only at k0 k1 k2 k3 k4 k5 hA
    generalize (⟨sq.toArray⟩:ByteArray)=SQ at k1 hA
    generalize ((mq / 18446744073709551616:Nat):Int)=hiq at k3 hA
    generalize ((mq % 18446744073709551616:Nat):Int)=loq at k4 hA
    obtain ⟨w14,hw14,hb14,hs14,hl14,x0,x1,x2,x3,x4,x5⟩:=bL w13 kq wq hiq loq pq SQ
    have hK14:=aa (show eY w14 w13.heap.size kq SQ wq hiq loq pq from by rw [←hw14];exact cK w13 _ _ _ _ _ _)
    go_upto_region 20 with fail
    have hS14:=aa (hS13.out.below hb14.out)
    have hT14:=aa (hT13.out.grg (g:=g) (aE.of hb14.out) (by omega))
    have hrK:g<w13.heap.size∧w.heap.size<w13.heap.size:=⟨ltr,hS13.out.bl⟩
    clear hS13 hT13 hw14 hb14 hs14 hl14 x0 x1 x2 x3 x4 x5 k0 k1 k2 k3 k4 k5 d0 df hbl lz bg pos le ml ltr
    generalize w13.heap.size=rK at*
    obtain ⟨y0,y1,y2,y3,y4,y5,y6,y7,y8,y9,y10,y11,y12⟩:=hVc.out _ _ hS14.out.rd
    have ltr:=hS14.out.rd.lt
    clear y0 y1 y2 y3 y4 y5 y6 y7 y8 y9 y11 y12
    go_upto_region 21 with (go_at_call 162;refine (hNm2.out _ hS14.out.grg hS14.out.rd).mono ?_;rintro e0 w15 ⟨rfl,hG15,hR15⟩;have hS15:=aa (hS14.out.step hG15 hR15);have hT15:=aa (hT14.out.grg hG15 (by omega));have hK15:=aa (hK14.out.grg hG15 (by omega));obtain ⟨z0,z1,z2,z3,z4,z5,f0,f1,f2,f3,f4,f5⟩:=hS15.out.cells;have bl15:=hS15.out.bl)
    have hS16:=aa (hS15.out.setAct (j:Int))
    have hT16:=aa (hT15.out.far (b:=w.heap.size) (i:=4) (v:=.int .i64 (j:Int)) (by omega))
    have hK16:=aa (hK15.out.far (b:=w.heap.size) (i:=4) (v:=.int .i64 (j:Int)) (by omega))
    clear hS14 hT14 hK14 hS15 hT15 hK15 hG15 hR15 hNm2 y10 z0 z1 z2 z3 z4 z5 f0 f1 f2 f3 f4 f5 bl15 ltr
    generalize w15.setCell ⟨w.heap.size,4,none⟩ (.int .i64 (j:Int))=w16 at hS16 hT16 hK16 ⊢
    obtain ⟨x0,x1,x2,x3,x4,x5⟩:=hK16.out.cells
    obtain ⟨t0,t1,t2,t3,t4⟩:=hT16.out.cells
    obtain ⟨z0,z1,z2,z3,z4,z5,zf⟩:=hS16.out.cells
    have bl16:=hS16.out.bl
    have xl16:=hK16.out.lt
    have tl16:=hT16.out.lt
    have hCt:=aa (fun d os=>(dQ Q3 q3 t.acts (j:Int) (HG (redrawn w16 d) os) ((hAc.out _ (hS16.out.grg.trans (aE.of (below_regrown w16 d os)))).more ah (Hw (HL hS16.out.rd.lt) (below_regrown w16 d os).size))).mono fun e0 w' h=>(⟨h.1.trans (by rw [decide_eq_true hed4.out]),h.2 ▸ Hs _ _⟩:e0=.returned (.bool true)∧Below (HG (redrawn w16 d) os).heap.size (HG (redrawn w16 d) os) w'))
    have hgw:=aS (show Below w16.heap.size w16 w16 from Hs _ _) (Ht _)
    clear t0 t1 t3 t4 z0 z1 z2 z3 z5 zf
    go_wp2_with fail
    refine cR ?_
    repeat (any_goals (first|go_big_quiet_step (first|(go_at_call 137;with_reducible exact Hv (hCt.out _ _))|(go_at_call 163;with_reducible exact Hv (hA.out _)))|quiet_step (first|(go_at_call 137;with_reducible exact Hv (hCt.out _ _))|(go_at_call 163;with_reducible exact Hv (hA.out _)))))
    refine wpQuiet_nil ?_
    intro w17 hw17
    replace hw17:=ac hw17
    have hS17:=aa (hS16.out.below hw17)
    clear hS16 hT16 hK16 hCt hgw hA x0 x1 x2 x3 x4 x5 t2 z4 bl16 xl16 tl16 hw17 hAc
    obtain ⟨y0,y1,y2,y3,y4,y5,y6,y7,y8,y9,y10,y11,y12⟩:=hVc.out _ _ hS17.out.rd
    obtain ⟨z0,z1,z2,z3,z4,z5,zf⟩:=hS17.out.cells
    have pc:=hPc.out _ hS17.out.grg
    have bl17:=hS17.out.bl
    have ltr:=hS17.out.rd.lt
    have abl:ab<w17.heap.size:=by omega
    have hArg:=aa (fun (W:World) (hW:Below w17.heap.size w17 W)=>(hAr.out W (hS17.out.grg.trans (aE.of hW)) (hS17.out.rd.below hW ltr)).mono fun e0 w' h=>(by
     obtain ⟨v,rfl,hnu,hG,hR⟩:=h
     have hS18:=(hS17.out.below hW).step hG hR
     have hnu':nr w' (w.heap.size+1) v args:=⟨hnu.1,cM hnu.2 (Hw bl17 hW.size)⟩
     obtain ⟨AV,cV,hv⟩:=aR hnu.2
     subst hv
     exact ⟨AV,cV,rfl,aa hS18,aa hnu',hS18.cells.2.2.2.2.2.1,hS18.cells.2.2.2.2.2.2.2.2.2.2.2,hS18.bl⟩:∃ AV cV,e0=.returned (.slice AV args.length cV)∧Hid (gX w w' g l5 V (k:Int) (.slice AP pats.length cP) pats len prio (j:Int) (.slice none 0 0) [])∧Hid (nr w' (w.heap.size+1) (.slice AV args.length cV) args)∧w'.cell? ⟨w.heap.size,5,none⟩=some (.slice none 0 0)∧w'.frozen? ⟨w.heap.size,5,none⟩=false∧w.heap.size<w'.heap.size))
    clear y0 y1 y2 y4 y5 y6 y7 y8 y9 y10 y11 y12 z0 z1 z2 z3 z5 zf hAr hPc
    go_upto_region 22 with fail
    go_cut [] (fun wx=>∃ AV cV,Hid (gX w wx g l5 V (k:Int) (.slice AP pats.length cP) pats len prio (j:Int) (.slice AV args.length cV) args))
    case first=>
     go_region_with (go_at_call 195;refine (hArg.out _ (by exact (Hs _ _).drew)).mono ?_;rintro e0 w18 ⟨AV,cV,rfl,hS18,hnu18,u5,v5,bl18⟩)
     all_goals go_wp2
     all_goals go_meet
     all_goals exact ⟨AV,cV,aa (hS18.out.setArgs hnu18.out)⟩
    case rest=>
     obtain ⟨AV,cV,hS18⟩:=hcut
     obtain ⟨w18,rfl⟩:∃ w18:World,w18=wc:=⟨_,rfl⟩
     clear hArg y3 z4 pc bl17 abl ltr hS17
     go_upto_region 24 with (go_at_call 189;refine (hW4.out _ hS18.out.rd).mono ?_;rintro e0 w19 ⟨rfl,hG19,hR19⟩)
     have hS19:=aa (hS18.out.step hG19 hR19)
     clear hS18 hG19 hR19 hW4
     obtain ⟨z0,z1,z2,z3,z4,z5,f0,f1,f2,f3,f4,f5⟩:=hS19.out.cells
     have bl19:=hS19.out.bl
     go_wp2
     obtain ⟨r1,r2,r3,r4⟩:=hS19.out.fin (.int .i64 (k:Int)) (.slice AP pats.length cP) (.int .i64 len) (.int .i64 prio) (.int .i64 (j:Int)) (.slice AV args.length cV)
     refine bodyPost_ret (v:=.agg #[.int .i64 (k:Int),.slice AP pats.length cP,.int .i64 len,.int .i64 prio,.int .i64 (j:Int),.slice AV args.length cV]) (by simp [results,results164,go_sem,z0,z1,z2,z3,z4,z5,bl19]) rfl ⟨_,_,rfl,r1,r2,r3,r4⟩
   ·rw [show cD (⟨#[112,114,105,111]⟩:ByteArray).data.toList l2=false from i1] at hI
    replace hI:=aa hI
    subst i4
    subst i5
    clear i1
    go_upto_region 18 with (go_at_call 192;refine hI.out.mono ?_;rintro e0 w12 ⟨rfl,hb8⟩)
    have hS12:=aa (hS7.out.below hb8)
    have hT12:=aa (hT7.out.grg (g:=g) (aE.of hb8) (by omega))
    clear hS7 hT7 hI hb8
    go_upto_region 19 with (go_at_call 189;refine (hW3.out _ hS12.out.rd).mono ?_;rintro e0 w13 ⟨rfl,hG13,hR13⟩)
    have hS13:=aa (hS12.out.step hG13 hR13)
    have hT13:=aa (hT12.out.grg hG13 (by omega))
    clear hS12 hT12 hG13 hR13 hW3
    obtain ⟨b',o',cp',hO⟩:=hS13.out.rd.open_
    obtain ⟨ltr,bg,pos,le,ml,d0,df,k0,k1,k2,k3,k4,k5⟩:=hO
    have hbl:b'<w13.heap.size:=by omega
    have lz:(0:Int)<((ai l3).length:Int):=by omega
    have hA:=aa (fun (W:World)=>bi (ag (ai l3)) 7 W)
    generalize ag (ai l3)=tq at k0 k1 k2 k3 k4 k5 hA
    obtain ⟨kq,sq,wq,mq,pq⟩:=tq
    unfold iF at hA
    simp only at k0 k1 k2 k3 k4 k5 hA
    generalize (⟨sq.toArray⟩:ByteArray)=SQ at k1 hA
    generalize ((mq / 18446744073709551616:Nat):Int)=hiq at k3 hA
    generalize ((mq % 18446744073709551616:Nat):Int)=loq at k4 hA
    obtain ⟨w14,hw14,hb14,hs14,hl14,x0,x1,x2,x3,x4,x5⟩:=bL w13 kq wq hiq loq pq SQ
    have hK14:=aa (show eY w14 w13.heap.size kq SQ wq hiq loq pq from by rw [←hw14];exact cK w13 _ _ _ _ _ _)
    go_upto_region 20 with fail
    have hS14:=aa (hS13.out.below hb14.out)
    have hT14:=aa (hT13.out.grg (g:=g) (aE.of hb14.out) (by omega))
    have hrK:g<w13.heap.size∧w.heap.size<w13.heap.size:=⟨ltr,hS13.out.bl⟩
    clear hS13 hT13 hw14 hb14 hs14 hl14 x0 x1 x2 x3 x4 x5 k0 k1 k2 k3 k4 k5 d0 df hbl lz bg pos le ml ltr
    generalize w13.heap.size=rK at*
    obtain ⟨y0,y1,y2,y3,y4,y5,y6,y7,y8,y9,y10,y11,y12⟩:=hVc.out _ _ hS14.out.rd
    have ltr:=hS14.out.rd.lt
    clear y0 y1 y2 y3 y4 y5 y6 y7 y8 y9 y11 y12
    go_upto_region 21 with (go_at_call 162;refine (hNm2.out _ hS14.out.grg hS14.out.rd).mono ?_;rintro e0 w15 ⟨rfl,hG15,hR15⟩;have hS15:=aa (hS14.out.step hG15 hR15);have hT15:=aa (hT14.out.grg hG15 (by omega));have hK15:=aa (hK14.out.grg hG15 (by omega));obtain ⟨z0,z1,z2,z3,z4,z5,f0,f1,f2,f3,f4,f5⟩:=hS15.out.cells;have bl15:=hS15.out.bl)
    have hS16:=aa (hS15.out.setAct (j:Int))
    have hT16:=aa (hT15.out.far (b:=w.heap.size) (i:=4) (v:=.int .i64 (j:Int)) (by omega))
    have hK16:=aa (hK15.out.far (b:=w.heap.size) (i:=4) (v:=.int .i64 (j:Int)) (by omega))
    clear hS14 hT14 hK14 hS15 hT15 hK15 hG15 hR15 hNm2 y10 z0 z1 z2 z3 z4 z5 f0 f1 f2 f3 f4 f5 bl15 ltr
    generalize w15.setCell ⟨w.heap.size,4,none⟩ (.int .i64 (j:Int))=w16 at hS16 hT16 hK16 ⊢
    obtain ⟨x0,x1,x2,x3,x4,x5⟩:=hK16.out.cells
    obtain ⟨t0,t1,t2,t3,t4⟩:=hT16.out.cells
    obtain ⟨z0,z1,z2,z3,z4,z5,zf⟩:=hS16.out.cells
    have bl16:=hS16.out.bl
    have xl16:=hK16.out.lt
    have tl16:=hT16.out.lt
    have hCt:=aa (fun d os=>(dQ Q3 q3 t.acts (j:Int) (HG (redrawn w16 d) os) ((hAc.out _ (hS16.out.grg.trans (aE.of (below_regrown w16 d os)))).more ah (Hw (HL hS16.out.rd.lt) (below_regrown w16 d os).size))).mono fun e0 w' h=>(⟨h.1.trans (by rw [decide_eq_true hed4.out]),h.2 ▸ Hs _ _⟩:e0=.returned (.bool true)∧Below (HG (redrawn w16 d) os).heap.size (HG (redrawn w16 d) os) w'))
    have hgw:=aS (show Below w16.heap.size w16 w16 from Hs _ _) (Ht _)
    clear t0 t1 t3 t4 z0 z1 z2 z3 z5 zf
    go_wp2_with fail
    refine cR ?_
    repeat (any_goals (first|go_big_quiet_step (first|(go_at_call 137;with_reducible exact Hv (hCt.out _ _))|(go_at_call 163;with_reducible exact Hv (hA.out _)))|quiet_step (first|(go_at_call 137;with_reducible exact Hv (hCt.out _ _))|(go_at_call 163;with_reducible exact Hv (hA.out _)))))
    refine wpQuiet_nil ?_
    intro w17 hw17
    replace hw17:=ac hw17
    have hS17:=aa (hS16.out.below hw17)
    clear hS16 hT16 hK16 hCt hgw hA x0 x1 x2 x3 x4 x5 t2 z4 bl16 xl16 tl16 hw17 hAc
    obtain ⟨y0,y1,y2,y3,y4,y5,y6,y7,y8,y9,y10,y11,y12⟩:=hVc.out _ _ hS17.out.rd
    obtain ⟨z0,z1,z2,z3,z4,z5,zf⟩:=hS17.out.cells
    have pc:=hPc.out _ hS17.out.grg
    have bl17:=hS17.out.bl
    have ltr:=hS17.out.rd.lt
    have abl:ab<w17.heap.size:=by omega
    have hArg:=aa (fun (W:World) (hW:Below w17.heap.size w17 W)=>(hAr.out W (hS17.out.grg.trans (aE.of hW)) (hS17.out.rd.below hW ltr)).mono fun e0 w' h=>(by
     obtain ⟨v,rfl,hnu,hG,hR⟩:=h
     have hS18:=(hS17.out.below hW).step hG hR
     have hnu':nr w' (w.heap.size+1) v args:=⟨hnu.1,cM hnu.2 (Hw bl17 hW.size)⟩
     obtain ⟨AV,cV,hv⟩:=aR hnu.2
     subst hv
     exact ⟨AV,cV,rfl,aa hS18,aa hnu',hS18.cells.2.2.2.2.2.1,hS18.cells.2.2.2.2.2.2.2.2.2.2.2,hS18.bl⟩:∃ AV cV,e0=.returned (.slice AV args.length cV)∧Hid (gX w w' g l5 V (k:Int) (.slice AP pats.length cP) pats len 0 (j:Int) (.slice none 0 0) [])∧Hid (nr w' (w.heap.size+1) (.slice AV args.length cV) args)∧w'.cell? ⟨w.heap.size,5,none⟩=some (.slice none 0 0)∧w'.frozen? ⟨w.heap.size,5,none⟩=false∧w.heap.size<w'.heap.size))
    clear y0 y1 y2 y4 y5 y6 y7 y8 y9 y10 y11 y12 z0 z1 z2 z3 z5 zf hAr hPc
    go_upto_region 22 with fail
    go_cut [] (fun wx=>∃ AV cV,Hid (gX w wx g l5 V (k:Int) (.slice AP pats.length cP) pats len 0 (j:Int) (.slice AV args.length cV) args))
    case first=>
     go_region_with (go_at_call 195;refine (hArg.out _ (by exact (Hs _ _).drew)).mono ?_;rintro e0 w18 ⟨AV,cV,rfl,hS18,hnu18,u5,v5,bl18⟩)
     all_goals go_wp2
     all_goals go_meet
     all_goals exact ⟨AV,cV,aa (hS18.out.setArgs hnu18.out)⟩
    case rest=>
     obtain ⟨AV,cV,hS18⟩:=hcut
     obtain ⟨w18,rfl⟩:∃ w18:World,w18=wc:=⟨_,rfl⟩
     clear hArg y3 z4 pc bl17 abl ltr hS17
     go_upto_region 24 with (go_at_call 189;refine (hW4.out _ hS18.out.rd).mono ?_;rintro e0 w19 ⟨rfl,hG19,hR19⟩)
     have hS19:=aa (hS18.out.step hG19 hR19)
     clear hS18 hG19 hR19 hW4
     obtain ⟨z0,z1,z2,z3,z4,z5,f0,f1,f2,f3,f4,f5⟩:=hS19.out.cells
     have bl19:=hS19.out.bl
     go_wp2
     obtain ⟨r1,r2,r3,r4⟩:=hS19.out.fin (.int .i64 (k:Int)) (.slice AP pats.length cP) (.int .i64 len) (.int .i64 0) (.int .i64 (j:Int)) (.slice AV args.length cV)
     refine bodyPost_ret (v:=.agg #[.int .i64 (k:Int),.slice AP pats.length cP,.int .i64 len,.int .i64 0,.int .i64 (j:Int),.slice AV args.length cV]) (by simp [results,results164,go_sem,z0,z1,z2,z3,z4,z5,bl19]) rfl ⟨_,_,rfl,r1,r2,r3,r4⟩
end
section
attribute [local go_sem] run_panic_iface
attribute [local go_sem ↓] cH
def rO (t:TypeId) (a b:Value):Sem Value:=Instr.makeSlice t a b
theorem vb (t:TypeId) (a b:Value):Instr.makeSlice t a b=rO t a b:=rfl
attribute [local go_sem ↓] vb
theorem xF:(prog.info? 38).map (fun i=>(i.zero,i.size,i.bytes))=some (some (.slice none 0 0),1,24):=by kernel_rfl
theorem oE (W:World) (n:Nat) (hn:n≤100000):(rO 34 (.int .i64 (n:Int)) (.int .i64 (n:Int))).run prog W=.ok (.slice (some ⟨W.heap.size,0,none⟩) n n) (W.alloc (.cells (madeCells #[.slice none 0 0] n) 38)):=by
 obtain ⟨ii,hii,hzi0,hzi1,hzi2⟩:=info_parts xF
 have h:=run_makeSlice (P:=prog) W 34 38 ii (.slice none 0 0) underlying34 hii hzi0 .i64 .i64 (n:Int) (n:Int) (by omega) (Int.le_refl _) (by rw [hzi1];simp;omega) (by rw [hzi2];omega) (by omega)
 rw [hzi1] at h
 simpa [rO,Value.cells] using h
theorem AU {l:List ByteArray} {x:ByteArray} (h:x∈l):∃ i:Nat,bo l x=(i:Int)∧i<l.length:=by
 unfold bo
 rw [if_pos h]
 exact ⟨_,rfl,yG x l h⟩
theorem E5 (A1 A2 A3 A4 A5 A6 A7 A8 A9 A10 A11 A12:Option Addr) (p:Lp) (c1 c2 c3 c4 c5 c6 c7 c8 c9 c10 c11 c12:Nat) (ASW:Option Addr) (cSW:Nat) (sw:List ByteArray) {g:Nat} {l:List Tk} {out:List (List aA)} {mm:Int} (f0:Nat) (SW:Value) (hSWv:SW=.slice ASW sw.length cSW) (w:World) (h:bq w g l #[.slice A1 p.heads.length c1,.slice A2 p.metas.length c2,.slice A3 p.steps.length c3,.slice A4 p.acts.length c4,.slice A5 p.tabs.length c5,.slice A6 p.control.length c6,.slice A7 p.emit.length c7,.slice A8 p.nh.length c8,.slice A9 p.nf.length c9,.slice A10 p.nm.length c10,.slice A11 p.na.length c11,.slice A12 p.nt.length c12,SW]) (hg0:0<g) (hm:w.cell? ⟨0,0,none⟩=some (.int .i64 mm)) (hP:cz w g A1 A2 A3 A4 A5 A6 A7 A8 A9 A10 A11 A12 p) (hmay:bR p=true) (hSw:Sl 1 cJ w g ASW sw) (hsw:sw.length≤1000) (ho:np p sw f0 (H8 sw.length []) l=some out):
  Calls prog 122 #[.pointer (some ⟨g,0,none⟩)] w fun r w'=>∃ vs,r=.returned (.slice (some ⟨w.heap.size,0,none⟩) sw.length sw.length)∧eN w' w.heap.size w.heap.size vs out∧out.length=sw.length∧aE g w w':=by
 have lt:=h.lt
 have hEn:=aa (fun (W:World) (hG:aE g w W) (lx l1:List Tk) (e:aA) (hR:bq W g lx #[.slice A1 p.heads.length c1,.slice A2 p.metas.length c2,.slice A3 p.steps.length c3,.slice A4 p.acts.length c4,.slice A5 p.tabs.length c5,.slice A6 p.control.length c6,.slice A7 p.emit.length c7,.slice A8 p.nh.length c8,.slice A9 p.nf.length c9,.slice A10 p.nm.length c10,.slice A11 p.na.length c11,.slice A12 p.nt.length c12,SW]) (he:qO p lx=some (e,l1))=>C1 A1 A2 A3 A4 A5 A6 A7 A8 A9 A10 A11 A12 p c1 c2 c3 c4 c5 c6 c7 c8 c9 c10 c11 c12 SW W hR hg0 ((hG.cell (i:=0) (by omega) (by omega)).trans hm) (hP.grgE A1 A2 A3 A4 A5 A6 A7 A8 A9 A10 A11 A12 p c1 c2 c3 c4 c5 c6 c7 c8 c9 c10 c11 c12 hG lt) hmay he)
 have hNm:=aa (fun (W:World) (hG:aE g w W) (lx:List Tk) (hR:bq W g lx #[.slice A1 p.heads.length c1,.slice A2 p.metas.length c2,.slice A3 p.steps.length c3,.slice A4 p.acts.length c4,.slice A5 p.tabs.length c5,.slice A6 p.control.length c6,.slice A7 p.emit.length c7,.slice A8 p.nh.length c8,.slice A9 p.nf.length c9,.slice A10 p.nm.length c10,.slice A11 p.na.length c11,.slice A12 p.nt.length c12,SW]) (h1:B9 (ag lx)=true) (h2:nX lx∈sw)=>Ae (cap:=cSW) hR hg0 ((hG.cell (i:=0) (by omega) (by omega)).trans hm) (hSw.grgE aG hG lt) h1 h2)
 have hVc:=aa (fun (W:World) (lx:List Tk) (hR:bq W g lx #[.slice A1 p.heads.length c1,.slice A2 p.metas.length c2,.slice A3 p.steps.length c3,.slice A4 p.acts.length c4,.slice A5 p.tabs.length c5,.slice A6 p.control.length c6,.slice A7 p.emit.length c7,.slice A8 p.nh.length c8,.slice A9 p.nf.length c9,.slice A10 p.nm.length c10,.slice A11 p.na.length c11,.slice A12 p.nt.length c12,SW])=>hR.cells13)
 generalize (#[.slice A1 p.heads.length c1,.slice A2 p.metas.length c2,.slice A3 p.steps.length c3,.slice A4 p.acts.length c4,.slice A5 p.tabs.length c5,.slice A6 p.control.length c6,.slice A7 p.emit.length c7,.slice A8 p.nh.length c8,.slice A9 p.nf.length c9,.slice A10 p.nm.length c10,.slice A11 p.na.length c11,.slice A12 p.nt.length c12,SW]:Array Value)=V at*
 subst hSWv
 have hmk:=oE w sw.length (by omega)
 have hO0:=aa (eN.made (W:=w) (B:=w.heap.size) sw.length (Ht _))
 have hba:Below w.heap.size w (w.alloc (.cells (madeCells #[.slice none 0 0] sw.length) 38)):=(Hs _ _).alloc (Ht _) _
 obtain ⟨wa,hwa⟩:∃ wa,w.alloc (.cells (madeCells #[.slice none 0 0] sw.length) 38)=wa:=⟨_,rfl⟩
 rw [hwa] at hmk hO0 hba
 have hR0:=aa (h.below hba lt)
 have hG0:=aa (aE.of (g:=g) hba)
 replace hwa:=aa hwa
 obtain ⟨y0,y1,y2,y3,y4,y5,y6,y7,y8,y9,y10,y11,y12⟩:=hVc.out w l h
 have ho':=aa ho
 clear y0 y1 y2 y3 y4 y5 y6 y7 y8 y9 y10 y11 hm hP hSw h hba ho
 go_enter func122,ntmps122
 go_wp2
 go_loopw [4,5] (fun _ _ wr=>∃ (f:Nat) (o1:List (List aA)) (vs:List Value) (lx:List Tk),Hid (eN wr w.heap.size w.heap.size vs o1)∧Hid (bq wr g lx V)∧Hid (aE g w wr)∧Hid (o1.length=sw.length)∧Hid (np p sw f o1 lx=some out)) (fun _ _ wr=>qZ g wr)
 case atStart=>exact ⟨f0,_,_,l,hO0,hR0,hG0,aa (by simp),ho'⟩
 case round=>
  clear hO0 hR0 hG0 ho' hmk y12
  obtain ⟨f,o1,vs,lx,hO,hR,hG,hln,hf⟩:=hrel
  have hl0:=hR.out.left
  cases f with
  |zero=>cases hf.out
  |succ f=>
   obtain ⟨b',o',cp',hOp⟩:=hR.out.open_
   obtain ⟨ltr,bg,pos,le,ml,d0,df,k0,k1,k2,k3,k4,k5⟩:=hOp
   have hbl:b'<wr.heap.size:=by omega
   have lz:(0:Int)<(lx.length:Int):=by omega
   rcases xE hf.out with ⟨h0,hres⟩|⟨h0,hn1,hn2,h64,e,l1,he,hnx⟩
   ·have ek:(((ag lx).kind:Int) !=0)=false:=by rw [h0];rfl
    subst hres
    clear hf
    generalize ag lx=tq at k0 k1 k2 k3 k4 k5 ek
    generalize (tq.kind:Int)=kq at k0 ek
    clear k1 k2 k3 k4 k5 hEn hNm hVc
    go_wp2
    go_ret
    exact ⟨_,rfl,hO.out,hln.out,hG.out⟩
   ·have ek:(((ag lx).kind:Int) !=0)=true:=by rw [bne_iff_ne];omega
    obtain ⟨i,hi,hil⟩:=AU hn2
    have hadv:=gP hR.out.1 h0
    have hle:=C0 he
    have hNm1:=aa (fun (W:World) (hG1:aE g w W) (hR1:bq W g lx V)=>hNm.out W hG1 lx hR1 hn1 hn2)
    rw [hi] at hNm1 h64 hnx
    rw [HQ] at h64 hnx
    have hEn1:=aa (fun (W:World) (hG1:aE g w W) (hR1:bq W g (ai lx) V)=>hEn.out W hG1 _ _ e hR1 he)
    have hA:=aa (fun (W:World)=>bi (ag lx) 5 W)
    replace hnx:=aa hnx
    clear hf hn1 hn2 hi he h0
    generalize ag lx=tq at k0 k1 k2 k3 k4 k5 hA ek
    obtain ⟨kq,sq,wq,mq,pq⟩:=tq
    unfold iF at hA
    simp only at k0 k1 k2 k3 k4 k5 hA ek
    generalize (⟨sq.toArray⟩:ByteArray)=SQ at k1 hA
    generalize ((mq / 18446744073709551616:Nat):Int)=hiq at k3 hA
    generalize ((mq % 18446744073709551616:Nat):Int)=loq at k4 hA
    obtain ⟨w4,hw4,hb4,hs4,hl4,x0,x1,x2,x3,x4,x5⟩:=bL wr kq wq hiq loq pq SQ
    have hK4:=aa (show eY w4 wr.heap.size kq SQ wq hiq loq pq from by rw [←hw4];exact cK wr _ _ _ _ _ _)
    go_upto_region 4 with fail
    have hO4:=aa (hO.out.grg (aE.of (g:=g) hb4.out) lt)
    have hR4:=aa (hR.out.below hb4.out hR.out.lt)
    have hG4:=aa (hG.out.trans (aE.of (g:=g) hb4.out))
    have hrK:g<wr.heap.size:=ltr
    have hrO:w.heap.size<wr.heap.size:=hO.out.lt
    clear hO hR hG hw4 hb4 hs4 hl4 x0 x1 x2 x3 x4 x5 k0 k1 k2 k3 k4 k5 d0 df hbl lz bg pos le ml ltr
    generalize hrr:wr.heap.size=rK at*
    obtain ⟨y0,y1,y2,y3,y4,y5,y6,y7,y8,y9,y10,y11,y12⟩:=hVc.out _ _ hR4.out
    have ltr:=hR4.out.lt
    clear y0 y1 y2 y3 y4 y5 y6 y7 y8 y9 y10 y11
    go_upto_region 5 with (go_at_call 162;refine (hNm1.out _ hG4.out hR4.out).mono ?_;rintro e0 w5 ⟨rfl,hG5,hR5⟩)
    have hO5:=aa (hO4.out.grg hG5 lt)
    have hK5:=aa (hK4.out.grg hG5 (by omega))
    have hG5':=aa (hG4.out.trans hG5)
    replace hR5:=aa hR5
    clear hO4 hK4 hG4 hR4 hG5 hNm1 y12 ltr
    have hio:i<o1.length:=by rw [hln.out];exact hil
    have hiz:(i:Int)<(sw.length:Int):=by omega
    obtain ⟨A,c,hv,cc,fc⟩:=hO5.out.cell hio
    obtain ⟨n,hn⟩:∃ n,(o1.getD i []).length=n:=⟨_,rfl⟩
    have h1000:(o1.getD i []).length<1000:=by omega
    rw [hn] at hv cc h64
    have hnlen:(n:Int)<64:=by omega
    have dl:decide ((n:Int)<64)=true:=decide_eq_true hnlen
    replace hn:=aa hn
    obtain ⟨x0,x1,x2,x3,x4,x5⟩:=hK5.out.cells
    have xl:=hK5.out.lt
    have ol:=hO5.out.lt
    have hgw:=aS (show Below w5.heap.size w5 w5 from Hs _ _) (Ht _)
    go_wp2_with fail
    refine cR ?_
    repeat (any_goals (first|go_big_quiet_step ((go_at_call 163;with_reducible exact Hv (hA.out _)))|quiet_step ((go_at_call 163;with_reducible exact Hv (hA.out _)))))
    refine wpQuiet_nil ?_
    intro w6 hw6
    replace hw6:=ac hw6
    have hO6:=aa (hO5.out.grg (aE.of (g:=g) hw6) lt)
    have hR6:=aa (hR5.out.below hw6 hR5.out.lt)
    have hG6:=aa (hG5'.out.trans (aE.of (g:=g) hw6))
    have cc6:=(hw6.cell (p:=⟨w.heap.size,i,none⟩) ol).trans cc
    have ol6:=Hr ol hw6.size
    clear x0 x1 x2 x3 x4 x5 xl hgw hA cc fc ol hO5 hR5 hG5' hK5 hw6
    have hEp:=aa (fun (W:World) (hW:Below w6.heap.size w6 W)=>show Calls prog 164 #[.pointer (some ⟨g,0,none⟩)] W fun r w3=>∃ v1 v2 A' c' wB,r=.returned (.agg #[.int .i64 e.tab,v1,.int .i64 e.len,.int .i64 e.prio,.int .i64 e.run.act,v2])∧(eh #[38,38] 38 #[.slice A n c,.slice (some ⟨w3.heap.size,0,none⟩) 1 1]).run prog (w3.alloc (.cells #[.int .i64 e.tab,v1,.int .i64 e.len,.int .i64 e.prio,.int .i64 e.run.act,v2] 49))=.ok (.slice A' (n+1) c') wB∧
      Hid (∃ vs2,eN (wB.setCell ⟨w.heap.size,i,none⟩ (.slice A' (n+1) c')) w.heap.size w.heap.size vs2 (o1.set i (o1.getD i []++ [e]))∧bq (wB.setCell ⟨w.heap.size,i,none⟩ (.slice A' (n+1) c')) g l1 V∧aE g w (wB.setCell ⟨w.heap.size,i,none⟩ (.slice A' (n+1) c')))∧w3.cell? ⟨w.heap.size,i,none⟩=some (.slice A n c)∧w.heap.size<w3.heap.size∧wB.cell? ⟨w.heap.size,i,none⟩=some (.slice A n c)∧wB.frozen? ⟨w.heap.size,i,none⟩=false∧w.heap.size<wB.heap.size from by
     refine (hEn1.out W (hG6.out.trans (aE.of hW)) (hR6.out.below hW hR6.out.lt)).mono ?_
     rintro r w3 ⟨v1,v2,rfl,hp1,hn1,hG3,hR3⟩
     have hO3:=(hO6.out.grg (aE.of (g:=g) hW) lt).grg hG3 lt
     have hzW:w.heap.size≤W.heap.size:=Hw (HL ol6) hW.size
     obtain ⟨A3,c3',hv3,cc3,-⟩:=hO3.cell hio
     rw [hn.out] at hv3 cc3
     rw [hv] at hv3
     injection hv3 with hv3
     injection hv3 with r1 r2 r3
     subst r1 r3
     obtain ⟨v',wB,hrun,hOB,hbB,q1,q2,q3⟩:=hO3.push (e:=e) (Hw hzW hG3.size) hio hv ⟨hp1.1,cM hp1.2 hzW⟩ ⟨hn1.1,cM hn1.2 hzW⟩ h1000
     have hfB:∃ A' c',v'=.slice A' (n+1) c':=by
      obtain ⟨A',c',e1⟩:=(hOB.row i v' (o1.getD i []++ [e]) (Ic (by rw [hO3.len];exact hio)) (Ic hio)).form
      exact ⟨A',c',by rw [e1,HM,List.length_singleton,hn.out]⟩
     obtain ⟨A',c',rfl⟩:=hfB
     have hRB:bq wB g l1 V:=hR3.below hbB lt
     have hGW:aE g w w3:=(hG6.out.trans (aE.of hW)).trans hG3
     have hGB:aE g w wB:=⟨hbB.os.trans hGW.os,hbB.tape.trans hGW.tape,hbB.output.trans hGW.output,Hw hGW.size hbB.size,fun q hq hn=>(hbB.block q hq).trans (hGW.block q hq hn)⟩
     exact ⟨v1,v2,A',c',wB,rfl,hrun,aa ⟨_,hOB,hRB.setNew lt _,hGB.setNew (Ht _) _⟩,cc3,hO3.lt,q1,q2,q3⟩)
    clear hEn1 hO6 hR6 hG6 hv
    go_wp2_with fail
    go_region_with (go_at_call 164;refine (hEp.out _ (by exact (Hs _ _).drew)).mono ?_;rintro r w11 ⟨v1,v2,A',c',wB,rfl,hrun2,hAB,y2,yl,z1,zf1,zl⟩)
    all_goals (
     go_wp2
     obtain ⟨vs2,hO2,hR2,hG2⟩:=hAB.out
     have hl2:=hR2.left
     go_roundw
     ·exact ⟨f,_,vs2,l1,aa hO2,aa hR2,aa hG2,aa (by rw [List.length_set];exact hln.out),hnx⟩
     ·rw [hl0,hl2];omega)
end
def vc (ts:Array TypeId) (ty:TypeId) (args:Array Value):Sem Value:=Builtin.copy_ ts ty args
theorem vd (ts:Array TypeId) (ty:TypeId) (args:Array Value):Builtin.copy_ ts ty args=vc ts ty args:=rfl
def sD:Array Value:=#[.int .i64 0,.slice none 0 0,.int .i64 0,.int .i64 0,.int .i64 0,.slice none 0 0]
theorem xG (W:World) (n:Nat) (hn:n≤100000):(rO 38 (.int .i64 (n:Int)) (.int .i64 (n:Int))).run prog W=.ok (.slice (some ⟨W.heap.size,0,none⟩) n n) (W.alloc (.cells (madeCells sD (n*6)) 49)):=by
 obtain ⟨ii,hii,hzi0,hzi1,hzi2⟩:=info_parts eA
 have h:=run_makeSlice (P:=prog) W 38 49 ii _ underlying38 hii hzi0 .i64 .i64 (n:Int) (n:Int) (by omega) (Int.le_refl _) (by rw [hzi1];simp;omega) (by rw [hzi2];omega) (by omega)
 rw [hzi1] at h
 simpa [rO,Value.cells,sD] using h
theorem ve {W:World} {base g n:Nat} {ps:List (aA×Value×Value)} {C:List Value} (hg:base≤g) (hn:ps.length=n) (hm:n≤100000) (hb:W.heap[g]? =some (.cells C.toArray 49 (0,0))) (hC:C=ps.flatMap an):W.ownsRow base 49 6 (.slice (some ⟨g,0,none⟩) n n) ps.length (ps.flatMap an):=by
 subst hn hC
 refine ⟨aI ps,.inr ⟨g,ps.length,_,rfl,hg,hb,Ht _,by simp only [maxLen];omega,?_,?_⟩⟩
 ·rw [List.size_toArray,aI]
 ·rw [←aI,H7]
theorem AX {W:World} {base B og i c:Nat} {vs:List Value} {out:List (List aA)} {A:Option Addr} {l:List aA} (h:bC W base B og vs out) (hi:i<out.length) (hv:vs[i]? =some (.slice none 0 0)) (hS:kp W base B A l) (hz:l.length≤1000):
  ∃ W',(vc #[38,38] 3 #[.slice (some ⟨W.heap.size,0,none⟩) l.length l.length,.slice A l.length c]).run prog ((W.alloc (.cells (madeCells sD (l.length*6)) 49)).setCell ⟨og,i,none⟩ (.slice (some ⟨W.heap.size,0,none⟩) l.length l.length))=.ok (.int .i64 (l.length:Int)) W'∧
   bC W' base B og (vs.set i (.slice (some ⟨W.heap.size,0,none⟩) l.length l.length)) (out.set i l)∧Below base W W':=by
 obtain ⟨ps,p1,p2,p3⟩:=hS
 have hl:ps.length=l.length:=by rw [←p1,H4]
 have hvi:i<vs.length:=by rw [h.len];exact hi
 have hog:=h.lt
 have hbs:base≤W.heap.size:=by have:=h.ob;omega
 obtain ⟨ii,hii,hzi0,hzi1,hzi2⟩:=info_parts eA
 have hsz:(prog.info? 49).map (·.size)=some 6:=by rw [hii];simp [hzi1]
 generalize hv':(Value.slice (some ⟨W.heap.size,0,none⟩) l.length l.length)=v'
 have hob:v'.ownBlock=some W.heap.size:=by rw [←hv'];rfl
 have f1:((W.alloc (.cells (madeCells sD (l.length*6)) 49)).setCell ⟨og,i,none⟩ v').heap[W.heap.size]? =some (.cells (madeCells sD (l.length*6)) 49 (0,0)):=by
  rw [ak (by omega)]
  exact heap_alloc_new W _
 have f2:((W.alloc (.cells (madeCells sD (l.length*6)) 49)).setCell ⟨og,i,none⟩ v').heap[og]? =some (.cells (vs.set i v').toArray 38 (0,0)):=by
  rw [ax (C:=vs.toArray) (t:=38) (fr:=(0,0)) ((heap_alloc_old W _ hog).trans h.bx)]
  simp
 have f3:∀ k,k<W.heap.size→k≠og→((W.alloc (.cells (madeCells sD (l.length*6)) 49)).setCell ⟨og,i,none⟩ v').heap[k]? =W.heap[k]? :=fun k hk hn=>by
  rw [ak hn]
  exact heap_alloc_old W _ hk
 have fb:Below base W ((W.alloc (.cells (madeCells sD (l.length*6)) 49)).setCell ⟨og,i,none⟩ v'):=((Hs _ _).alloc hbs _).setCell (p:=⟨og,i,none⟩) h.ob v'
 have hlow:∀ W':World,(∀ k,k<W.heap.size→k≠og→W'.heap[k]? =W.heap[k]?)→∀ a:Addr,a.block<B→W'.cell? a=W.cell? a:=fun W' hW a ha=>World.cell?_of_block (w:=W) (w':=W') (hW a.block (by have:=h.bb;have:=h.ob;omega) (by have:=h.bb;have:=h.ob;omega))
 generalize hW2:((W.alloc (.cells (madeCells sD (l.length*6)) 49)).setCell ⟨og,i,none⟩ v')=W2 at f1 f2 f3 fb ⊢
 clear hW2
 by_cases h0:l.length=0
 ·have hl0:l= []:=Ie h0
  have hp0:ps= []:=Ie (by omega)
  refine ⟨W2,?_,h.put hi hv f2 (fun k hk hn _=>f3 k hk hn) ⟨ps,p1,?_,fun x hx=>(p2 x hx).keep (hlow W2 f3)⟩ (.inr (.inr ⟨_,hob,Ht _⟩)),fb⟩
  ·rw [←hv']
   have:=mF (P:=prog) W2 38 38 3 49 6 (some ⟨W.heap.size,0,none⟩) A l.length l.length l.length c underlying38 hsz (by rw [h0];rfl)
   rw [h0] at this ⊢
   exact this
  ·rw [←hv',←hl]
   exact ve hbs rfl (by omega) (C:=ps.flatMap an) (by rw [f1,hp0,h0];simp [madeCells]) rfl
 ·have hcs:(ps.flatMap an).length=l.length*6:=by rw [aI,hl]
  have hpos:0<(ps.flatMap an).length:=by omega
  obtain ⟨b,o,hA,hb,-⟩:=p3 0 _ (HA hpos)
  have hadd:∀ j,(⟨b,o,none⟩:Addr).add j=⟨b,o+j,none⟩:=fun j=>by unfold Addr.add;split<;>simp_all
  have hsrc:∀ j u,(ps.flatMap an)[j]? =some u→W2.cell? ((⟨b,o,none⟩:Addr).add j)=some u:=fun j u hu=>by
   obtain ⟨b',o',hA',hb',hc⟩:=p3 j u hu
   rw [hA] at hA'
   injection hA' with hA'
   injection hA' with e1 e2 e3
   subst e1 e2
   have hob:=h.ob
   rw [hadd,World.cell?_of_block (w:=W) (w':=W2) (a:=⟨b,o+j,none⟩) (f3 b (by omega) (by omega))]
   exact hc
  have hrun:=fa (P:=prog) W2 38 38 3 49 6 W.heap.size 0 l.length l.length ⟨b,o,none⟩ l.length c (madeCells sD (l.length*6)) 49 (ps.flatMap an) underlying38 hsz f1 (by rw [hcs];exact congrArg (· *6) (Nat.min_self _).symm) hsrc (by rw [size_madeCells];omega) (jg p2)
  have hC:((madeCells sD (l.length*6)).toList.take 0++ps.flatMap an++(madeCells sD (l.length*6)).toList.drop (0+(ps.flatMap an).length))=ps.flatMap an:=by
   rw [List.take_zero,List.nil_append,Im (by rw [Array.length_toList,size_madeCells];omega),List.append_nil]
  rw [hC] at hrun
  have g3:∀ k,k<W.heap.size→k≠og→(W2.setRow W.heap.size (ps.flatMap an).toArray).heap[k]? =W.heap[k]? :=fun k hk hn=>(setRow_other W2 _ k _ (by omega)).trans (f3 k hk hn)
  refine ⟨W2.setRow W.heap.size (ps.flatMap an).toArray,?_,h.put hi hv ((setRow_other W2 _ og _ (by omega)).trans f2) (fun k hk hn _=>g3 k hk hn) ⟨ps,p1,?_,fun x hx=>(p2 x hx).keep (hlow _ g3)⟩ (.inr (.inr ⟨_,hob,Ht _⟩)),?_⟩
  ·rw [←hv',hA]
   have hm:Nat.min l.length l.length=l.length:=Nat.min_self _
   rw [hm] at hrun
   exact hrun
  ·rw [←hv',←hl]
   exact ve hbs rfl (by omega) (C:=ps.flatMap an) (setRow_heap W2 _ _ _ _ _ f1) rfl
  ·exact below_setRow fb hbs _
theorem pF (ps:List (aA×Value×Value)) (i:Nat):(ps.take i).flatMap an=(ps.flatMap an).take (i*6):=by
 induction ps generalizing i with
 |nil=>simp
 |cons x r ih=>
  cases i with
  |zero=>simp
  |succ i=>
   rw [List.take_succ_cons,Ia,Ia,ih,List.take_append]
   have e:(an x).length=6:=rfl
   rw [H6 (l:=an x) (by rw [e];omega),e,show (i+1)*6-6=i*6 by omega]
theorem pG (ps:List (aA×Value×Value)) (i:Nat):(ps.drop i).flatMap an=(ps.flatMap an).drop (i*6):=by
 induction ps generalizing i with
 |nil=>simp
 |cons x r ih=>
  cases i with
  |zero=>simp
  |succ i=>
   rw [List.drop_succ_cons,Ia,ih,List.drop_append]
   have e:(an x).length=6:=rfl
   rw [Im (l:=an x) (by rw [e];omega),e,show (i+1)*6-6=i*6 by omega,List.nil_append]
theorem eW (b o j:Nat):(⟨b,o,none⟩:Addr).add j=⟨b,o+j,none⟩:=by unfold Addr.add;split<;>simp_all
theorem C4 {W:World} {base g n gv:Nat} {ps:List (aA×Value×Value)} {x:aA×Value×Value} (hs:W.heap[g]? =some (.cells (ps.flatMap an).toArray 49 (0,0))) (hn:ps.length=n) (hz:n≤1000) (hb:base≤W.heap.size)
  (hv:∀ j u,(an x)[j]? =some u→W.cell? ⟨gv,j,none⟩=some u):
  ∃ v' W',(eh #[38,38] 38 #[.slice (some ⟨g,0,none⟩) n n,.slice (some ⟨gv,0,none⟩) 1 1]).run prog W=.ok v' W'∧W'.ownsRow W.heap.size 49 6 v' (ps++ [x]).length ((ps++ [x]).flatMap an)∧Below W.heap.size W W':=by
 obtain ⟨ii,hii,hzi0,hzi1,hzi2⟩:=info_parts eA
 subst hn
 obtain ⟨v',W',h1,h2,h3⟩:=run_append_arg_grows (P:=prog) W 38 38 49 ii _ 6 80 underlying38 hii hzi0 hzi1 hzi2 rfl (by omega) ⟨g,0,none⟩ ps.length ps.length (ps.flatMap an) (aI ps) (fun j u hu=>by rw [eW,H3,aH hs j];simpa using hu) ⟨gv,0,none⟩ 1 1 (an x) rfl (fun j u hu=>by rw [eW,H3];exact hv j u hu) (by omega) (by simp [maxLen];omega) (by omega)
 refine ⟨v',W',h1,?_,(Hs _ _).grown h3 (Ht _) (fun k e=>by cases e)⟩
 rw [HM,Io]
 simpa using h2
theorem C5 {W:World} {base g n i gv:Nat} {ps:List (aA×Value×Value)} {x:aA×Value×Value} (hs:W.heap[g]? =some (.cells (ps.flatMap an).toArray 49 (0,0))) (hn:ps.length=n) (hi:i<n) (hz:n≤1000)
  (hv:∀ j u,(an x)[j]? =some u→W.cell? ⟨gv,j,none⟩=some u) (h1:∀ u∈ps.flatMap an,u.oneCell'=true) (hx1:∀ u∈an x,u.oneCell'=true):
  ∃ cap2 W2 W3 W4,(eh #[38,3] 38 #[.slice (some ⟨g,0,none⟩) i n,.int .i64 ((n+1-i:Nat):Int)]).run prog W=.ok (.slice (some ⟨W.heap.size,0,none⟩) (n+1) cap2) W2∧n+1≤cap2∧
   (vc #[38,38] 3 #[.slice (some ⟨W.heap.size,i*6,none⟩) (n+1-i) (cap2-i),.slice (some ⟨gv,0,none⟩) 1 1]).run prog W2=.ok (.int .i64 1) W3∧
   (vc #[38,38] 3 #[.slice (some ⟨W.heap.size,(i+1)*6,none⟩) (n-i) (cap2-(i+1)),.slice (some ⟨g,i*6,none⟩) (n-i) (n-i)]).run prog W3.drew=.ok (.int .i64 ((n-i:Nat):Int)) W4∧
   W4.ownsRow W.heap.size 49 6 (.slice (some ⟨W.heap.size,0,none⟩) (n+1) cap2) (n+1) ((ps.take i++x::ps.drop i).flatMap an)∧Below W.heap.size W W2∧Below W.heap.size W W3∧Below W.heap.size W W4:=by
 obtain ⟨ii,hii,hzi0,hzi1,hzi2⟩:=info_parts eA
 have hsz:(prog.info? 49).map (·.size)=some 6:=by rw [hii];simp [hzi1]
 have hgl:=aN hs
 subst hn
 have hgv:gv<W.heap.size:=World.block_lt_of_cell? W _ (hv 0 _ rfl)
 have hol:((ps.take i).flatMap an).length=i*6:=by rw [aI,HO];omega
 have hfc:=run_firstCells_some (P:=prog) W.drew ii.size i ⟨g,0,none⟩ i ps.length ((ps.take i).flatMap an) (by rw [hol,hzi1]) (fun j u hu=>by
  rw [eW,H3]
  show W.cell? ⟨g,j,none⟩=some u
  rw [aH hs j]
  rw [pF] at hu
  by_cases hj:j<i*6
  ·rw [List.getElem?_take_of_lt hj] at hu
   simpa using hu
  ·rw [List.getElem?_take_eq_none (by omega)] at hu;cases hu)
 have r1:=Go.Lib.run_append_grow_zeros (P:=prog) W 38 3 38 49 ii _ .i64 .i64 underlying38 underlying3 hii hzi0 (some ⟨g,0,none⟩) i ps.length ((ps.take i).flatMap an) hfc (ps.length+1-i) (by omega) (by rw [hzi1];omega) (by omega) (by omega) (by rw [hzi2];omega) (growslice_fits (by omega) (by rw [hzi2];omega))
 have hge:=grownCap_ge W (i+(ps.length+1-i)) ps.length 49
 have hmx:=grownCap_le_maxLen W (i+(ps.length+1-i)) ps.length 49 (by simp [maxLen];omega)
 rw [show i+(ps.length+1-i)=ps.length+1 by omega] at r1 hge hmx
 generalize grownCap W (ps.length+1) ps.length 49=cap2 at r1 hge hmx
 generalize hcur:((ps.take i).flatMap an).toArray++Builtin.zeroCells (Value.cells (.agg #[.int .i64 0,.slice none 0 0,.int .i64 0,.int .i64 0,.int .i64 0,.slice none 0 0])) (ps.length+1-i)++Builtin.zeroCells (Value.cells (.agg #[.int .i64 0,.slice none 0 0,.int .i64 0,.int .i64 0,.int .i64 0,.slice none 0 0])) (cap2-(ps.length+1))=cur at r1
 have hz6:(Value.cells (.agg #[.int .i64 0,.slice none 0 0,.int .i64 0,.int .i64 0,.int .i64 0,.slice none 0 0])).size=6:=rfl
 have hsize:cur.size=cap2*6:=by
  rw [←hcur]
  simp only [Array.size_append,List.size_toArray,size_zeroCells,hz6,hol]
  omega
 have hcu:cur.toList.take (i*6)=(ps.take i).flatMap an:=by
  rw [←hcur]
  simp only [Array.toList_append,List.append_assoc]
  rw [Il (by simp [hol]),H6 (by simp [hol])]
 have hc2:(W.drew.alloc (.cells cur 49)).heap[W.heap.size]? =some (.cells cur 49 (0,0)):=heap_alloc_new W.drew _
 have hb2:Below W.heap.size W (W.drew.alloc (.cells cur 49)):=(Hs _ _).drew.alloc (Ht _) _
 have hlx:(an x).length=6:=rfl
 have hcl:cur.toList.length=cap2*6:=by rw [Array.length_toList];exact hsize
 generalize W.drew.alloc (.cells cur 49)=W2 at r1 hc2 hb2
 generalize hg2:W.heap.size=g2 at*
 
 have c1:=fa (P:=prog) W2 38 38 3 49 6 g2 (i*6) (ps.length+1-i) (cap2-i) ⟨gv,0,none⟩ 1 1 cur 49 (an x) underlying38 hsz hc2 (by rw [hlx,show Nat.min 1 (ps.length+1-i)=1 from Nat.min_eq_left (by omega)]) (fun j u hu=>by rw [eW,H3];exact (hb2.cell (p:=⟨gv,j,none⟩) hgv).trans (hv j u hu)) (by rw [hlx,hsize];omega) hx1
 rw [show Nat.min 1 (ps.length+1-i)=1 from Nat.min_eq_left (by omega)] at c1
 generalize hC3:cur.toList.take (i*6)++an x++cur.toList.drop (i*6+(an x).length)=C3 at c1
 have hl3:C3.length=cap2*6:=by rw [←hC3];simp only [HM,HO,HR,hlx,hcl];omega
 have h3:(W2.setRow g2 C3.toArray).heap[g2]? =some (.cells C3.toArray 49 (0,0)):=setRow_heap W2 g2 _ _ _ _ hc2
 have hb3:Below g2 W (W2.setRow g2 C3.toArray):=below_setRow hb2 (Ht _) _
 have h3d:(W2.setRow g2 C3.toArray).drew.heap[g2]? =some (.cells C3.toArray 49 (0,0)):=h3
 have hb3d:Below g2 W (W2.setRow g2 C3.toArray).drew:=hb3.drew
 
 have hd:(ps.drop i).length=ps.length-i:=HR
 have hdl:((ps.drop i).flatMap an).length=(ps.length-i)*6:=by rw [aI,hd]
 have c2:=fa (P:=prog) (W2.setRow g2 C3.toArray).drew 38 38 3 49 6 g2 ((i+1)*6) (ps.length-i) (cap2-(i+1)) ⟨g,i*6,none⟩ (ps.length-i) (ps.length-i) C3.toArray 49 ((ps.drop i).flatMap an) underlying38 hsz h3d (by rw [hdl];exact congrArg (· *6) (Nat.min_self _).symm) (fun j u hu=>by
  rw [eW]
  refine (hb3d.cell (p:=⟨g,i*6+j,none⟩) hgl).trans ?_
  rw [aH hs]
  rw [pG,List.getElem?_drop] at hu
  simpa using hu) (by rw [hdl,List.size_toArray,hl3];omega) (fun u hu=>h1 u (by
   obtain ⟨y,hy,hu⟩:=List.mem_flatMap.1 hu
   exact List.mem_flatMap.2 ⟨y,List.mem_of_mem_drop hy,hu⟩))
 rw [show Nat.min (ps.length-i) (ps.length-i)=ps.length-i from Nat.min_self _] at c2
 simp only [List.toList_toArray] at c2
 refine ⟨cap2,W2,_,_,r1,hge,c1,c2,⟨?_,.inr ⟨g2,cap2,_,rfl,Ht _,setRow_heap _ g2 _ _ _ _ h3d,?_,hmx,?_,?_⟩⟩,hb2,hb3,below_setRow hb3d (Ht _) _⟩
 ·rw [aI];simp;omega
 ·omega
 ·rw [List.size_toArray]
  simp only [HM,HO,HR,hdl,hl3]
  omega
 ·have hC3t:C3.take ((i+1)*6)=(ps.take i).flatMap an++an x:=by
   have hta:(cur.toList.take (i*6)).length=i*6:=by rw [HO,hcl];omega
   rw [←hC3,Il (by rw [HM,hta,hlx];omega),H6 (by rw [HM,hta,hlx];omega),hcu]
  rw [List.toList_toArray,hC3t]
  rw [Il (by simp only [HM,aI,HO,HR,hlx];omega),H6 (by simp only [HM,aI,HO,HR,hlx];omega)]
  rw [Io,Ia]
  simp
def tX (ts:Array TypeId) (ty:TypeId) (args:Array Value):Sem Value:=Builtin.clear_ ts ty args
theorem AY (ts:Array TypeId) (ty:TypeId) (args:Array Value):Builtin.clear_ ts ty args=tX ts ty args:=rfl
theorem jE {P:Program} (w:World) (t ty e:TypeId) (i:TypeInfo) (ht:P.underlying t=some (.slice e)) (hi:P.info? e=some i)
  (b sLen sCap:Nat) (cur:Array Value) (te:TypeId) (hg:w.heap[b]? =some (.cells cur te (0,0))) (a:Addr) (m c:Nat) (news:List Value) (hl:news.length=m*i.size) (hnews:∀ j u,news[j]? =some u→w.cell? (a.add j)=some u) (h1:∀ u∈news,u.oneCell'=true)
  (hroom:sLen+m≤sCap) (hfit:sLen*i.size+news.length≤cur.size):
  (Builtin.append_ #[t,t] ty #[.slice (some ⟨b,0,none⟩) sLen sCap,.slice (some a) m c]).run P w=.ok (.slice (some ⟨b,0,none⟩) (sLen+m) sCap) (w.setRow b (cur.toList.take (sLen*i.size)++news++cur.toList.drop (sLen*i.size+news.length)).toArray):=by
 have hfc:=run_firstCells_some (P:=P) w i.size m a m c news hl hnews
 have hst:=run_storeCells_at P b (sLen*i.size) te news 0 cur w hg (by simpa using hfit) h1
 simp only [Nat.add_zero] at hst
 simp [Builtin.append_,run_underlying ht,sizeOf,typeInfo,hi,Builtin.lenOf,hroom,hfc,eW,hst]
theorem tY {P:Program} (w:World) (t e ty:TypeId) (z:Value) (k:Nat) (ht:P.underlying t=some (.slice e)) (hv:∀ w,(zeroValue e).run P w=.ok z w) (hz:z.cells.size=k) (h1:∀ u∈z.cells.toList,u.oneCell'=true) (b o c:Nat)
  (cur:Array Value) (te:TypeId) (hg:w.heap[b]? =some (.cells cur te (0,0))) (hfit:o+k≤cur.size):
  (Builtin.clear_ #[t] ty #[.slice (some ⟨b,o,none⟩) 1 c]).run P w=.ok (.tuple #[]) (w.setRow b (cur.toList.take o++z.cells.toList++cur.toList.drop (o+k)).toArray):=by
 have hzc:(Builtin.zeroCells z.cells 1).toList=z.cells.toList:=by
  simp only [Builtin.zeroCells]
  apply List.ext_getElem
  ·simp
  ·intro i q1 q2
   simp at q1 q2
   simp [Nat.mod_eq_of_lt q2]
   rw [getElem!_pos z.cells i q2]
 have hst:=run_storeCells_at P b o te z.cells.toList 0 cur w hg (by simp [hz];omega) h1
 simp only [Nat.add_zero,Array.length_toList,hz] at hst
 simp [Builtin.clear_,run_underlying ht,hv,hzc,hst]
theorem AZ:∀ w,(zeroValue 49).run prog w=.ok (.agg sD) w:=fun w=>by kernel_rfl
theorem Ba {W:World} {base g n i:Nat} {ps:List (aA×Value×Value)} (hs:W.heap[g]? =some (.cells (ps.flatMap an).toArray 49 (0,0))) (hn:ps.length=n) (hi:i<n) (hz:n≤1000) (hg:base≤g) (h1:∀ u∈ps.flatMap an,u.oneCell'=true)
  (a:Addr) (ha:i+1<n→a=⟨g,(i+1)*6,none⟩):
  ∃ W2 W3,(eh #[38,38] 38 #[.slice (some ⟨g,0,none⟩) i n,.slice (some a) (n-(i+1)) (n-(i+1))]).run prog W.drew=.ok (.slice (some ⟨g,0,none⟩) (n-1) n) W2∧
   (tX #[38] 0 #[.slice (some ⟨g,(n-1)*6,none⟩) 1 1]).run prog W2=.ok (.tuple #[]) W3∧
   W3.ownsRow base 49 6 (.slice (some ⟨g,0,none⟩) (n-1) n) (n-1) ((ps.take i++ps.drop (i+1)).flatMap an)∧(∀ k,k≠g→W3.heap[k]? =W.heap[k]?)∧Below base W W3:=by
 obtain ⟨ii,hii,hzi0,hzi1,hzi2⟩:=info_parts eA
 subst hn
 have hdl:((ps.drop (i+1)).flatMap an).length=(ps.length-(i+1))*6:=by rw [aI,HR]
 have hcl:(ps.flatMap an).length=ps.length*6:=aI ps
 have r1:=jE (P:=prog) W.drew 38 38 49 ii underlying38 hii g i ps.length (ps.flatMap an).toArray 49 hs a (ps.length-(i+1)) (ps.length-(i+1)) ((ps.drop (i+1)).flatMap an) (by rw [hdl,hzi1]) (fun j u hu=>by
  have hj:j<((ps.drop (i+1)).flatMap an).length:=(H1.1 hu).1
  rw [ha (by omega),eW]
  show W.cell? _=_
  rw [aH hs]
  rw [pG,List.getElem?_drop] at hu
  simpa using hu) (fun u hu=>h1 u (by
   obtain ⟨y,hy,hu⟩:=List.mem_flatMap.1 hu
   exact List.mem_flatMap.2 ⟨y,List.mem_of_mem_drop hy,hu⟩)) (by omega) (by rw [hzi1,hdl,List.size_toArray,hcl];omega)
 rw [hzi1,show i+(ps.length-(i+1))=ps.length-1 by omega] at r1
 simp only [List.toList_toArray] at r1
 generalize hC2:(ps.flatMap an).take (i*6)++(ps.drop (i+1)).flatMap an++(ps.flatMap an).drop (i*6+((ps.drop (i+1)).flatMap an).length)=C2 at r1
 have hl2:C2.length=ps.length*6:=by rw [←hC2];simp only [HM,HO,HR,hdl,hcl];omega
 have h2:(W.drew.setRow g C2.toArray).heap[g]? =some (.cells C2.toArray 49 (0,0)):=setRow_heap W.drew g _ _ _ _ hs
 have r2:=tY (P:=prog) (W.drew.setRow g C2.toArray) 38 49 0 (.agg sD) 6 underlying38 AZ rfl (fun u hu=>by
  simp [Value.cells,sD] at hu
  rcases hu with rfl|rfl|rfl|rfl<;>rfl) g ((ps.length-1)*6) 1 C2.toArray 49 h2 (by rw [List.size_toArray,hl2];omega)
 simp only [List.toList_toArray] at r2
 refine ⟨_,_,r1,r2,⟨?_,.inr ⟨g,ps.length,_,rfl,hg,setRow_heap _ g _ _ _ _ h2,by omega,by simp [maxLen];omega,?_,?_⟩⟩,fun k hk=>(setRow_other _ g k _ hk).trans (setRow_other _ g k _ hk),below_setRow (below_setRow (Hs _ _).drew hg _) hg _⟩
 ·rw [aI]
  simp
  omega
 ·have hz6:(Value.agg sD).cells.toList.length=6:=rfl
  rw [List.size_toArray]
  simp only [HM,HO,HR,hz6,hl2]
  omega
 ·have hlt:(C2.take ((ps.length-1)*6)).length=(ps.length-1)*6:=by rw [HO,hl2];omega
  rw [List.toList_toArray,List.append_assoc,Il (by omega),H6 (by omega)]
  have hta:((ps.flatMap an).take (i*6)).length=i*6:=by rw [HO,hcl];omega
  rw [←hC2,Il (by rw [HM,hta,hdl];omega),H6 (by rw [HM,hta,hdl];omega),Io,pF]
end Go.Proofs.YtijcdfdbkffiaaaGreatDoor

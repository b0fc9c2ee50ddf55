import Derived.Test.YtiebolhmdhdagaaGreatDoorEwp26
set_option linter.all false
set_option maxHeartbeats 16000000
set_option maxRecDepth 100000
open Go.Proofs.Tryz
namespace Go.Proofs.YtiebolhmdhdagaaGreatDoor
open _root_.Nat renaming lt_of_lt_of_le→He, le_refl→Hh, le_trans→Hj, le_of_lt→Hs, lt_succ_self→HA, lt_trans→HB, ne_of_lt→HW
open _root_.Go.RowKit.Below renaming refl→Hf
open _root_.Go.Calls renaming regrown_of→Hi
open _root_.List renaming getElem?_eq_getElem→Hn, getElem_mem→Ho, length_append→Hu, length_singleton→Ie
open _root_.Go.Sort renaming grow→Ht
open _root_.Int renaming eq_ofNat_of_zero_le→Hv, toNat_natCast→HG
open Go.RowKit
section
attribute [local go_sem] run_panic_iface
attribute [local go_sem ↓] cU
theorem Dt (A1 A2 A3 A4 A5 A6 A7 A8 A9 A10 A11 A12:Option Addr) (p:Lp) (c1 c2 c3 c4 c5 c6 c7 c8 c9 c10 c11 c12:Nat) (SW:Value) {g:Nat} {l l':List Tk} {e:aR} {mm:Int} (w:World) (h:bb w g l #[.slice A1 p.heads.length c1,.slice A2 p.metas.length c2,.slice A3 p.steps.length c3,.slice A4 p.acts.length c4,.slice A5 p.tabs.length c5,.slice A6 p.control.length c6,.slice A7 p.emit.length c7,.slice A8 p.nh.length c8,.slice A9 p.nf.length c9,.slice A10 p.nm.length c10,.slice A11 p.na.length c11,.slice A12 p.nt.length c12,SW]) (hg0:2<g) (hm:w.cell? ⟨2,0,none⟩=some (.int .i64 mm)) (hP:cJ w g A1 A2 A3 A4 A5 A6 A7 A8 A9 A10 A11 A12 p) (hmay:bW p=true) (ho:oM p l=some (e,l')):
  Calls prog 92 #[.pointer (some ⟨g,0,none⟩)] w fun r w'=>∃ v1 v2,r=.returned (.agg #[.int .i64 e.tab,v1,.int .i64 e.len,.int .i64 e.prio,.int .i64 e.run.act,v2])∧Bn w' w.heap.size v1 e.pats∧oN w' w.heap.size v2 e.run.args∧ay g w w'∧bb w' g l' #[.slice A1 p.heads.length c1,.slice A2 p.metas.length c2,.slice A3 p.steps.length c3,.slice A4 p.acts.length c4,.slice A5 p.tabs.length c5,.slice A6 p.control.length c6,.slice A7 p.emit.length c7,.slice A8 p.nh.length c8,.slice A9 p.nf.length c9,.slice A10 p.nm.length c10,.slice A11 p.na.length c11,.slice A12 p.nt.length c12,SW]:=by
 have lt:=h.lt
 obtain ⟨t,a,l1,l2,l3,l4,l5,hE⟩:=nY ho
 obtain ⟨tab,pats,len,prio,act,args⟩:=e
 have ea1:=hE.a1
 have ea2:=hE.a2
 have ea3:=hE.a3
 have ea4:=hE.a4
 have ea5:=hE.a5
 have eb1:=hE.b1
 have eb2:=hE.b2
 have eb3:=hE.b3
 have eb4:=hE.b4
 have ec1:=hE.c1
 have ec2:=hE.c2
 have ed1:=hE.d1
 have ed2:=hE.d2
 have ed3:=hE.d3
 have ed4:=hE.d4
 have ed5:=hE.d5
 have ee1:=hE.e1
 have ee2:=hE.e2
 have ee3:=hE.e3
 have ee4:=hE.e4
 simp only at ea4 ea5 eb3 eb4 ec1 ed3 ed4 ed5 ee2 ⊢
 clear ho hE
 obtain ⟨hk0,hk1,rfl⟩:=kv ea5
 obtain ⟨k,rfl⟩:=Hv hk0
 obtain ⟨hj0,hj1,rfl⟩:=kv ed5
 obtain ⟨j,rfl⟩:=Hv hj0
 simp only [HG] at hk1 hj1 eb3 eb4 ed4 ee2
 have htm:p.tabs[k]∈p.tabs:=Ho hk1
 obtain ⟨tp1,tp2,tp3,tp4,tp5⟩:=dr ((ck hmay).2.2 _ htm)
 obtain ⟨ap1,ap2⟩:=gu hmay ed5
 simp only [HG] at ap1 ap2
 have hkw:=aa (fun i (hi:i<p.tabs[k].keys.length)=>BJ hmay htm hi)
 have hLp:=aa (fun (W:World) (hG:ay g w W)=>hP.grgE A1 A2 A3 A4 A5 A6 A7 A8 A9 A10 A11 A12 p c1 c2 c3 c4 c5 c6 c7 c8 c9 c10 c11 c12 hG lt)
 have hmK:=aa (fun (W:World) (hG:ay g w W)=>(hG.cell (i:=0) (by omega) (by omega)).trans hm)
 obtain ⟨tb,to',ecs,hA5,htb,hn5,hcell5,Q1,Q2,Q3,Q4,q1,q2,q3,q4,rfl,s1,s2,s3,s4,-,-⟩:=hP.tabs.2 k _ (Hn hk1)
 have tc0:w.cell? ⟨tb,to'+k*5,none⟩=some (.slice Q1 p.tabs[k].keys.length q1):=hcell5 0 _ rfl
 have tc1:w.cell? ⟨tb,to'+k*5+1,none⟩=some (.slice Q2 p.tabs[k].kinds.length q2):=hcell5 1 _ rfl
 have tc2:w.cell? ⟨tb,to'+k*5+2,none⟩=some (.slice Q3 p.tabs[k].acts.length q3):=hcell5 2 _ rfl
 have tc3:w.cell? ⟨tb,to'+k*5+3,none⟩=some (.int .i64 p.tabs[k].run.act):=hcell5 3 _ rfl
 have tc4:w.cell? ⟨tb,to'+k*5+4,none⟩=some (.slice Q4 p.tabs[k].run.args.length q4):=hcell5 4 _ rfl
 obtain ⟨ab,ao,R1,R2,r1,r2,hA4,hab,ac0,ac1,s5,s6⟩:=hP.acts.act hj1
 
 have hW1:=aa (fun (W:World) (hR:bb W g l #[.slice A1 p.heads.length c1,.slice A2 p.metas.length c2,.slice A3 p.steps.length c3,.slice A4 p.acts.length c4,.slice A5 p.tabs.length c5,.slice A6 p.control.length c6,.slice A7 p.emit.length c7,.slice A8 p.nh.length c8,.slice A9 p.nf.length c9,.slice A10 p.nm.length c10,.slice A11 p.na.length c11,.slice A12 p.nt.length c12,SW])=>kZ ⟨#[46]⟩ hR ea1)
 have hNm1:=aa (fun (W:World) (hG:ay g w W) (hR:bb W g (ae l) #[.slice A1 p.heads.length c1,.slice A2 p.metas.length c2,.slice A3 p.steps.length c3,.slice A4 p.acts.length c4,.slice A5 p.tabs.length c5,.slice A6 p.control.length c6,.slice A7 p.emit.length c7,.slice A8 p.nh.length c8,.slice A9 p.nf.length c9,.slice A10 p.nm.length c10,.slice A11 p.na.length c11,.slice A12 p.nt.length c12,SW])=>sJ (cap:=c12) hR hg0 (hmK.out W hG) ((hLp.out W hG).nt) ea2 ea3)
 rw [←ea4] at hNm1
 have hWd:=aa (fun (W:World) (hG:ay g w W) (hR:bb W g (ae (ae l)) #[.slice A1 p.heads.length c1,.slice A2 p.metas.length c2,.slice A3 p.steps.length c3,.slice A4 p.acts.length c4,.slice A5 p.tabs.length c5,.slice A6 p.control.length c6,.slice A7 p.emit.length c7,.slice A8 p.nh.length c8,.slice A9 p.nf.length c9,.slice A10 p.nm.length c10,.slice A11 p.na.length c11,.slice A12 p.nt.length c12,SW])=>th A1 A2 A3 A4 A5 A6 A7 A8 A9 A10 A11 A12 p c1 c2 c3 c4 c5 c6 c7 c8 c9 c10 c11 c12 SW p.tabs[k] Q1 Q2 Q3 Q4 q1 q2 q3 q4 W hR (hLp.out W hG) (s1.grgE aS hG lt) (by omega))
 have hW2:=aa (fun (W:World) (hR:bb W g (ae (ae l)) #[.slice A1 p.heads.length c1,.slice A2 p.metas.length c2,.slice A3 p.steps.length c3,.slice A4 p.acts.length c4,.slice A5 p.tabs.length c5,.slice A6 p.control.length c6,.slice A7 p.emit.length c7,.slice A8 p.nh.length c8,.slice A9 p.nf.length c9,.slice A10 p.nm.length c10,.slice A11 p.na.length c11,.slice A12 p.nt.length c12,SW])=>kZ ⟨#[58]⟩ hR eb1)
 rw [←eb2] at hW2
 have hW3:=aa (fun (W:World) (hR:bb W g l3 #[.slice A1 p.heads.length c1,.slice A2 p.metas.length c2,.slice A3 p.steps.length c3,.slice A4 p.acts.length c4,.slice A5 p.tabs.length c5,.slice A6 p.control.length c6,.slice A7 p.emit.length c7,.slice A8 p.nh.length c8,.slice A9 p.nf.length c9,.slice A10 p.nm.length c10,.slice A11 p.na.length c11,.slice A12 p.nt.length c12,SW])=>kZ ⟨#[45,62]⟩ hR ec2)
 have hNm2:=aa (fun (W:World) (hG:ay g w W) (hR:bb W g (ae l3) #[.slice A1 p.heads.length c1,.slice A2 p.metas.length c2,.slice A3 p.steps.length c3,.slice A4 p.acts.length c4,.slice A5 p.tabs.length c5,.slice A6 p.control.length c6,.slice A7 p.emit.length c7,.slice A8 p.nh.length c8,.slice A9 p.nf.length c9,.slice A10 p.nm.length c10,.slice A11 p.na.length c11,.slice A12 p.nt.length c12,SW])=>sJ (cap:=c11) hR hg0 (hmK.out W hG) ((hLp.out W hG).na) ed1 ed2)
 rw [←ed3,←ee1] at hNm2
 have hAr:=aa (fun (W:World) (hG:ay g w W) (hR:bb W g l4 #[.slice A1 p.heads.length c1,.slice A2 p.metas.length c2,.slice A3 p.steps.length c3,.slice A4 p.acts.length c4,.slice A5 p.tabs.length c5,.slice A6 p.control.length c6,.slice A7 p.emit.length c7,.slice A8 p.nh.length c8,.slice A9 p.nf.length c9,.slice A10 p.nm.length c10,.slice A11 p.na.length c11,.slice A12 p.nt.length c12,SW])=>EO (cap:=r1) hR (s5.grgE ai hG lt) ap2 (by omega) ee2)
 have hW4:=aa (fun (W:World) (hR:bb W g l5 #[.slice A1 p.heads.length c1,.slice A2 p.metas.length c2,.slice A3 p.steps.length c3,.slice A4 p.acts.length c4,.slice A5 p.tabs.length c5,.slice A6 p.control.length c6,.slice A7 p.emit.length c7,.slice A8 p.nh.length c8,.slice A9 p.nf.length c9,.slice A10 p.nm.length c10,.slice A11 p.na.length c11,.slice A12 p.nt.length c12,SW])=>kZ ⟨#[59]⟩ hR ee3)
 rw [←ee4] at hW4
 have hKd:=aa (fun (W:World) (hG:ay g w W)=>s2.grgE bX hG lt)
 have hAc:=aa (fun (W:World) (hG:ay g w W)=>(s3.grgE ai hG lt))
 have hTc:=aa (fun (W:World) (hG:ay g w W)=>(⟨(hG.cell (HB htb lt) (HW htb)).trans tc0,(hG.cell (HB htb lt) (HW htb)).trans tc1,(hG.cell (HB htb lt) (HW htb)).trans tc2,(hG.cell (HB htb lt) (HW htb)).trans tc3,(hG.cell (HB htb lt) (HW htb)).trans tc4⟩:W.cell? ⟨tb,to'+k*5,none⟩=some (.slice Q1 p.tabs[k].keys.length q1)∧W.cell? ⟨tb,to'+k*5+1,none⟩=some (.slice Q2 p.tabs[k].kinds.length q2)∧W.cell? ⟨tb,to'+k*5+2,none⟩=some (.slice Q3 p.tabs[k].acts.length q3)∧W.cell? ⟨tb,to'+k*5+3,none⟩=some (.int .i64 p.tabs[k].run.act)∧W.cell? ⟨tb,to'+k*5+4,none⟩=some (.slice Q4 p.tabs[k].run.args.length q4)))
 have hPc:=aa (fun (W:World) (hG:ay g w W)=>(hG.cell (HB hab lt) (HW hab)).trans ac0)
 have hVc:=aa (fun (W:World) (lx:List Tk) (hR:bb W g lx #[.slice A1 p.heads.length c1,.slice A2 p.metas.length c2,.slice A3 p.steps.length c3,.slice A4 p.acts.length c4,.slice A5 p.tabs.length c5,.slice A6 p.control.length c6,.slice A7 p.emit.length c7,.slice A8 p.nh.length c8,.slice A9 p.nf.length c9,.slice A10 p.nm.length c10,.slice A11 p.na.length c11,.slice A12 p.nt.length c12,SW])=>hR.cells13)
 generalize (#[.slice A1 p.heads.length c1,.slice A2 p.metas.length c2,.slice A3 p.steps.length c3,.slice A4 p.acts.length c4,.slice A5 p.tabs.length c5,.slice A6 p.control.length c6,.slice A7 p.emit.length c7,.slice A8 p.nh.length c8,.slice A9 p.nf.length c9,.slice A10 p.nm.length c10,.slice A11 p.na.length c11,.slice A12 p.nt.length c12,SW]:Array Value)=V at*
 have hkz:(k:Int)<(p.tabs.length:Int):=by omega
 have hjz:(j:Int)<(p.acts.length:Int):=by omega
 have lt5:=hP.tabs.len
 have lt4:=hP.acts.len
 have hed4:=aa ed4
 have hb4:=aa eb4
 have hec1:=aa ec1
 have heb3:=aa eb3
 have htp:=aa (⟨tp2,tp3⟩:p.tabs[k].keys.length≤4∧p.tabs[k].kinds.length=p.tabs[k].keys.length)
 have hal:=aa ap1
 have hkinds:=(s2.len)
 have hrps:=s5.len
 subst hA5
 subst hA4
 generalize p.tabs[k]=t at*
 generalize p.acts[j]=a at*
 clear tc0 tc1 tc2 tc3 tc4 ac0 ac1 s1 s2 s3 s4 s5 s6 ea1 ea2 ea3 ea4 ea5 eb1 eb2 eb3 eb4 ec1 ec2 ed1 ed2 ed3 ed4 ed5 ee1 ee2 ee3 ee4 hk0 hj0 hcell5 hn5 tp1 tp2 tp3 tp4 tp5 ap1 ap2 htm hP hmK hLp hm hmay
 obtain ⟨wa,hwa,hsa,hba,-,-⟩:=ak w #[.int .i64 0,.slice none 0 0,.int .i64 0,.int .i64 0,.int .i64 0,.slice none 0 0] 57
 have hS0:=aa (show g9 w wa g l V 0 (.slice none 0 0) [] 0 0 0 (.slice none 0 0) [] from ⟨ay.of hba,h.below hba lt,by rw [←hwa];exact heap_alloc_new w _,⟨fun x hx=>by simp at hx,World.ownsRow_nil _ _ _ _⟩,⟨fun x hx=>by simp at hx,World.ownsRow_nil _ _ _ _⟩,lt⟩)
 replace hsa:=aa hsa
 clear hba h
 go_enter func92,ntmps92
 go_upto_region 2 with (go_at_call 146;refine (hW1.out _ hS0.out.rd).mono ?_;rintro e0 w1 ⟨rfl,hG1,hR1⟩)
 have hS1:=aa (hS0.out.step hG1 hR1)
 obtain ⟨y0,y1,y2,y3,y4,y5,y6,y7,y8,y9,y10,y11,y12⟩:=hVc.out _ _ hR1
 have ltr:=hR1.lt
 clear hG1 hR1 hS0 hW1 y0 y1 y2 y3 y4 y5 y6 y7 y8 y9 y10 y12
 go_upto_region 3 with (go_at_call 90;refine (hNm1.out _ hS1.out.grg hS1.out.rd).mono ?_;rintro e0 w2 ⟨rfl,hG2,hR2⟩;have hS2:=aa (hS1.out.step hG2 hR2);obtain ⟨z0,z1,z2,z3,z4,z5,f0,f1,f2,f3,f4,f5⟩:=hS2.out.cells;have bl2:=hS2.out.bl)
 have hS3:=aa (hS2.out.setTab (k:Int))
 clear hG2 hR2 hS1 hS2 hNm1 z0 z1 z2 z3 z4 z5 f0 f1 f2 f3 f4 f5 y11
 generalize w2.setCell ⟨w.heap.size,0,none⟩ (.int .i64 (k:Int))=w3 at hS3 ⊢
 obtain ⟨y0,y1,y2,y3,y4,y5,y6,y7,y8,y9,y10,y11,y12⟩:=hVc.out _ _ hS3.out.rd
 obtain ⟨z0,z1,z2,z3,z4,z5,f0,f1,f2,f3,f4,f5⟩:=hS3.out.cells
 obtain ⟨t0,t1,t2,t3,t4⟩:=hTc.out _ hS3.out.grg
 have bl3:=hS3.out.bl
 have ltr:=hS3.out.rd.lt
 have ltb:tb<w3.heap.size:=by omega
 clear bl2 y0 y1 y2 y3 y5 y6 y7 y8 y9 y10 y11 y12 z1 z2 z3 z4 z5 f0 f1 f2 f3 f4 f5
 go_region
 have hT4:=aa (show gD (w3.alloc (.cells #[.slice Q1 t.keys.length q1,.slice Q2 t.kinds.length q2,.slice Q3 t.acts.length q3,.int .i64 t.run.act,.slice Q4 t.run.args.length q4] 108)).drew w3.heap.size Q1 Q2 Q3 Q4 t q1 q2 q3 q4 from heap_alloc_new w3 _)
 have hS4:=aa (hS3.out.below (((Hf w3.heap.size w3).alloc (Hh _) (.cells #[.slice Q1 t.keys.length q1,.slice Q2 t.kinds.length q2,.slice Q3 t.acts.length q3,.int .i64 t.run.act,.slice Q4 t.run.args.length q4] 108)).drew))
 have hrT:g<w3.heap.size∧w.heap.size<w3.heap.size:=⟨ltr,bl3⟩
 generalize (w3.alloc (.cells #[.slice Q1 t.keys.length q1,.slice Q2 t.kinds.length q2,.slice Q3 t.acts.length q3,.int .i64 t.run.act,.slice Q4 t.run.args.length q4] 108)).drew=w4 at hT4 hS4 ⊢
 clear hS3 z0 t0 t1 t2 t3 t4 bl3 ltr ltb y4
 generalize w3.heap.size=rT at*
 obtain ⟨t0,t1,t2,t3,t4⟩:=hT4.out.cells
 have htl:=hT4.out.lt
 go_upto_region 5 with (go_at_call 147;refine (hWd.out _ hS4.out.grg hS4.out.rd).mono ?_;rintro e0 w5 ⟨vw,rfl,hws5,hb5⟩)
 obtain ⟨AW,cW,hvw⟩:=bO hws5
 rw [fC] at hvw
 subst hvw
 have hWs5:=aa (show lP w5 (w.heap.size+1) (.slice AW t.keys.length cW) (oy p t) from du hws5 hS4.out.bl)
 have hS5:=aa (hS4.out.below hb5)
 have hT5:=aa (hT4.out.grg (g:=g) (ay.of hb5) (by omega))
 clear hS4 hT4 hws5 hb5 t0 t1 t2 t3 t4 htl hWd
 go_upto_region 6 with (go_at_call 146;refine (hW2.out _ hS5.out.rd).mono ?_;rintro e0 w6 ⟨rfl,hG6,hR6⟩)
 have hS6:=aa (hS5.out.step hG6 hR6)
 have hT6:=aa (hT5.out.grg hG6 (by omega))
 have hWs6:=aa (show lP w6 (w.heap.size+1) (.slice AW t.keys.length cW) (oy p t) from aZ hWs5.out hG6 (by omega))
 clear hS5 hT5 hWs5 hG6 hR6 hW2
 go_wp2
 go_loopw [5,6,7] (fun v5 _ _ wr=>∃ (more:Bool) (acc:List Pt) (ln:Int) (lx:List Tk) (AP:Option Addr) (cP:Nat),v5=.bool more∧Hid (g9 w wr g lx V (k:Int) (.slice AP acc.length cP) acc ln 0 0 (.slice none 0 0) [])∧Hid (gD wr rT Q1 Q2 Q3 Q4 t q1 q2 q3 q4)∧Hid (lP wr (w.heap.size+1) (.slice AW t.keys.length cW) (oy p t))∧Hid (0≤ln∧ln≤(acc.length:Int)*128∧acc.length≤t.keys.length)∧Hid (more=true→∃ f,gA p t f acc ln lx=some (pats,len,l2))∧Hid (more=false→pats=acc∧len=ln∧l2=lx)) (fun _ _ _ wr=>nN g wr)
 case atStart=>exact ⟨true,[],0,l1,none,0,rfl,hS6,hT6,hWs6,aa ⟨by omega,by simp,by simp⟩,aa (fun _=>⟨_,heb3.out⟩),aa (fun hq=>by cases hq)⟩
 case round=>
  clear hS6 hT6 hWs6 heb3
  obtain ⟨more,acc,ln,lx,AP,cP,rfl,hS,hT,hWs,hln,hmt,hmf⟩:=hrel
  cases more with
  |true=>
   obtain ⟨f,hf⟩:=hmt.out rfl
   clear hmt hmf
   cases f with
   |zero=>cases hf
   |succ f=>
    obtain ⟨hac,x,n,lx1,hpo,hnx⟩:=nW hf
    have hl0:=hS.out.rd.left
    have hwy:=hkw.out _ hac
    obtain ⟨okx,hn0,hn1,hles⟩:=uY hS.out.rd.1 hwy hpo
    have hkl:acc.length<t.kinds.length:=by have:=htp.out.2;omega
    have hacz:(acc.length:Int)<(t.keys.length:Int):=by omega
    have hkdz:(acc.length:Int)<(t.kinds.length:Int):=by omega
    have dac:decide ((acc.length:Int)<(t.keys.length:Int))=true:=decide_eq_true hacz
    have hpat:=aa (fun (W:World) (hR:bb W g lx V)=>Fl hR hwy hpo)
    rw [nH hkl] at hpat
    obtain ⟨kb,ko,hQ2,hkb,-⟩:=(hKd.out wr hS.out.grg).byte hkl
    have hkc:=aa (fun (W:World) (hG:ay g w W)=>show W.cell? ⟨kb,ko+acc.length,none⟩=some (.int .u8 t.kinds[acc.length]) from by
     obtain ⟨kb',ko',hQ',hkb',hc'⟩:=(hKd.out W hG).byte hkl
     rw [hQ2] at hQ'
     injection hQ' with hQ'
     injection hQ' with e1 e2 e3
     subst e1 e2
     exact hc')
    obtain ⟨wb,hAW,hwb0,hwb1,-⟩:=hWs.out.at_ (i:=acc.length) (by rw [fC];exact hac)
    have hwc:=aa (fun (W:World) (hW:lP W (w.heap.size+1) (.slice AW t.keys.length cW) (oy p t))=>show wb<W.heap.size∧W.cell? ⟨wb,acc.length,none⟩=some (.int .i64 (m7 p t acc.length)) from by
     obtain ⟨wb',hA',-,hb',hc'⟩:=hW.at_ (i:=acc.length) (by rw [fC];exact hac)
     rw [hAW] at hA'
     injection hA' with hA'
     injection hA' with e1 e2 e3
     subst e1
     have h9:=BE (p:=p) hac
     rw [Hn (by rw [fC];exact hac)] at h9
     injection h9 with h9
     rw [h9] at hc'
     exact ⟨hb',hc'⟩)
    subst hQ2
    subst hAW
    have hlns:=hln.out
    have hwr1:IntKind.i64.wrap (ln+n)=ln+n:=by rw [IntKind.wrap_i64];have:=htp.out.1;omega
    have hln2:=aa (show 0≤ln+n∧ln+n≤((acc++ [x]).length:Int)*128∧(acc++ [x]).length≤t.keys.length from ⟨by omega,by rw [Hu,Ie];omega,by rw [Hu,Ie];omega⟩)
    generalize t.kinds[acc.length]=kd at hpat hkc
    generalize m7 p t acc.length=yw at hpat hwc hwy
    replace hnx:=aa hnx
    replace okx:=aa okx
    replace hln:=aa hln.out
    clear hf hpo hlns
    obtain ⟨b',o',cp',hO⟩:=hS.out.rd.open_
    obtain ⟨ltr,bg,pos,le,ml,d0,df,k0,k1,k2,k3,k4,k5⟩:=hO
    obtain ⟨z0,z1,z2,z3,z4,z5,zf⟩:=hS.out.cells
    have bl:=hS.out.bl
    have hbl:b'<wr.heap.size:=by omega
    have lz:(0:Int)<(lx.length:Int):=by omega
    have hA:=aa (fun (W:World)=>aY (af lx) 5 W)
    generalize af lx=tq at k0 k1 k2 k3 k4 k5 hA
    obtain ⟨kq,sq,wq,mq,pq⟩:=tq
    unfold g8 at hA
    simp only at k0 k1 k2 k3 k4 k5 hA
    generalize (⟨sq.toArray⟩:ByteArray)=SQ at k1 hA
    generalize ((mq / 18446744073709551616:Nat):Int)=hiq at k3 hA
    generalize ((mq % 18446744073709551616:Nat):Int)=loq at k4 hA
    have hgw:=aE (show Below wr.heap.size wr wr from Hf _ _) (Hh _)
    clear z0 z2 z3 z4 z5 zf df
    go_wp2_with fail
    refine bV ?_
    repeat (any_goals (first|go_big_quiet_step ((go_at_call 91;with_reducible exact Hi (hA.out _)))|quiet_step ((go_at_call 91;with_reducible exact Hi (hA.out _)))))
    refine wpQuiet_nil ?_
    intro w7 hw7
    replace hw7:=ac hw7
    have hS7:=aa (hS.out.below hw7)
    have hT7:=aa (hT.out.grg (g:=g) (ay.of hw7) (by omega))
    have hWs7:=aa (show lP w7 (w.heap.size+1) (.slice (some ⟨wb,0,none⟩) t.keys.length cW) (oy p t) from aZ hWs.out (ay.of (g:=g) hw7) (by omega))
    clear hgw k0 k1 k2 k3 k4 k5 d0 z1 bl hA hbl lz bg pos le ml ltr hS hT hWs hw7
    obtain ⟨z0,z1,z2,z3,z4,z5,zf⟩:=hS7.out.cells
    obtain ⟨t0,t1,t2,t3,t4⟩:=hT7.out.cells
    have kc:=hkc.out w7 hS7.out.grg
    obtain ⟨wl,wc'⟩:=hwc.out w7 hWs7.out
    have bl7:=hS7.out.bl
    have tl7:=hT7.out.lt
    have ltr:=hS7.out.rd.lt
    have kl7:kb<w7.heap.size:=by omega
    have n1:w.heap.size≠g:=by omega
    have n2:rT≠g:=by omega
    have n3:kb≠g:=by omega
    have n4:wb≠g:=by omega
    have n5:w7.heap.size≠g:=by omega
    have hX:=aa (fun (W:World) (hW:Below w7.heap.size w7 W)=>(hpat.out W (hS7.out.rd.below hW ltr)).mono fun e0 w' h=>(⟨h.1,(ay.of hW).trans h.2.1,h.2.1,h.2.2⟩:_∧ay g w7 w'∧ay g W w'∧bb w' g lx1 V))
    clear hpat z0 z2 z3 z4 z5 zf t0 t2 t3 t4
    go_upto_region 9 with fail
    go_cut [6,7] (fun sp lv wx=>∃ b,sp=.pointer (some ⟨b,0,none⟩)∧lv=.int .i64 n∧Hid (rc w7 wx g lx1 V b x))
    case first=>
     go_region_held3 (fun w'=>ay g w7 w'∧∀ b o,b<w7.heap.size→b≠g→w'.cell? ⟨b,o,none⟩=w7.cell? ⟨b,o,none⟩) (first|exact lB (ay.of (Hf _ _).drew)|exact lB (ay.of ((Hf _ _).drew.alloc (Hh _) _))|(with_reducible exact lB hG9)|(with_reducible exact lB (hG9.trans (ay.of ((Hf _ _).alloc (Hh _) _))))|(with_reducible exact lB (rc.new hG9 hR9 x).grg)|(with_reducible exact lB (rc.set rfl hG9 hG9' ltr hR9 x).grg))
      ((go_at_call 148;refine (hX.out _ (by first|exact (Hf _ _).drew|exact (Hf _ _).drew.alloc (Hh _) _)).mono ?_;rintro e0 w9 ⟨rfl,hG9,hG9',hR9⟩;have kb9:=BG hG9'))
     all_goals go_wp2
     all_goals go_meet
     all_goals first
      |exact ⟨_,rfl,rfl,aa (rc.new hG9 hR9 x)⟩
      |exact ⟨_,rfl,rfl,aa (rc.set rfl hG9 hG9' ltr hR9 x)⟩
    case rest=>
     obtain ⟨b,rfl,rfl,hN⟩:=hcut
     obtain ⟨w8,rfl⟩:∃ w8:World,w8=wc:=⟨_,rfl⟩
     have hS8:=aa (hS7.out.step hN.out.grg hN.out.rd)
     have hT8:=aa (hT7.out.grg hN.out.grg (by omega))
     have hWs8:=aa (show lP w8 (w.heap.size+1) (.slice (some ⟨wb,0,none⟩) t.keys.length cW) (oy p t) from aZ hWs7.out hN.out.grg (by omega))
     obtain ⟨p0,p1,p2,p3,-⟩:=hN.out.bx.cells
     have pbl:=hN.out.bx.lt
     clear hX hS7 hT7 hWs7 z1 t1 kc wc' bl7 tl7 kl7 wl n1 n2 n3 n4 n5 hN ltr
     obtain ⟨z0,z1,z2,z3,z4,z5,f0,f1,f2,f3,f4,f5⟩:=hS8.out.cells
     have bl8:=hS8.out.bl
     obtain ⟨v',wA,hrun,hPA,hbA,hKA⟩:=uZ (W:=w8.drew) (base:=w.heap.size+1) x okx.out (show Bn w8.drew _ _ _ from hS8.out.ps) bl8 (by have:=hln.out.2.2;have:=htp.out.1;omega)
     obtain ⟨AN,cN,hvN⟩:∃ A c,v'=.slice A (acc.length+1) c:=by
      obtain ⟨A,c,h⟩:=bO hPA.2
      exact ⟨A,c,by rw [h];simp⟩
     subst hvN
     replace hrun:(eO #[52,52] 52 #[.slice AP acc.length cP,.slice (some ⟨w8.heap.size,0,none⟩) 1 1]).run prog (w8.alloc (.cells #[.int .u64 x.vh,.int .u64 x.vl,.int .u64 x.mh,.int .u64 x.ml] 63)).drew=.ok (.slice AN (acc.length+1) cN) wA:=hrun
     have hbA8:Below (w.heap.size+1) w8 wA:=(Hf _ _).drew.trans hbA
     have kA:=ah hbA8
     have e1:=(kA.1 _ 1 (HA _)).trans z1
     have e2:=(kA.1 _ 2 (HA _)).trans z2
     have h1:=(kA.2 _ 1 (HA _)).trans f1
     have h2:=(kA.2 _ 2 (HA _)).trans f2
     have eb:=He bl8 hbA8.size
     have hS10:=aa (hS8.out.setPat hbA8 ⟨hS8.out.nu.1,dw (w:=w8.drew) hS8.out.nu.2 hKA (by decide)⟩ hPA (ln+n))
     have hT10:=aa (show gD ((wA.setCell ⟨w.heap.size,1,none⟩ (.slice AN (acc.length+1) cN)).setCell ⟨w.heap.size,2,none⟩ (.int .i64 (ln+n))) rT Q1 (some ⟨kb,ko,none⟩) Q3 Q4 t q1 q2 q3 q4 from by
      unfold gD
      rw [cg (by omega),cg (by omega)]
      exact hKA _ _ _ _ hT8.out (by decide))
     have hWs10:=aa (show lP ((wA.setCell ⟨w.heap.size,1,none⟩ (.slice AN (acc.length+1) cN)).setCell ⟨w.heap.size,2,none⟩ (.int .i64 (ln+n))) (w.heap.size+1) (.slice (some ⟨wb,0,none⟩) t.keys.length cW) (oy p t) from ownsRow_setCell_below (ownsRow_setCell_below (dw (w:=w8.drew) hWs8.out hKA (by decide)) (HA _) _) (HA _) _)
     clear hS8 hT8 hWs8 hPA hbA hKA hbA8 kA z0 z3 z4 z5 f0 f1 f2 f3 f4 f5
     go_wp2_with fail
     go_region
     clear hrun e1 e2 h1 h2 eb z1 z2 bl8 p0 p1 p2 p3 pbl
     generalize ((wA.setCell ⟨w.heap.size,1,none⟩ (.slice AN (acc.length+1) cN)).setCell ⟨w.heap.size,2,none⟩ (.int .i64 (ln+n)))=w10 at hS10 hT10 hWs10 ⊢
     have hI:=rq ⟨#[44]⟩ hS10.out.rd
     cases h44:bA [44] lx1 with
     |true=>
      rw [show bA (⟨#[44]⟩:ByteArray).data.toList lx1=true from h44] at hI
      replace hI:=aa hI
      have hn1:=hnx.out
      rw [if_pos h44] at hn1
      replace hn1:=aa hn1
      have hle2:=bw lx1
      have hNt:=aa (fun (W:World) (hW:bb W g lx1 V)=>jF hW)
      generalize af lx1=t2 at hNt
      obtain ⟨k2,s2,wd2,m2,pl2⟩:=t2
      unfold g8 at hNt
      simp only at hNt
      generalize (⟨s2.toArray⟩:ByteArray)=SS2 at hNt
      generalize ((m2 / 18446744073709551616:Nat):Int)=hi2 at hNt
      generalize ((m2 % 18446744073709551616:Nat):Int)=lo2 at hNt
      clear hnx h44
      go_upto_region 13 with (go_at_call 149;refine hI.out.mono ?_;rintro e0 w11 ⟨rfl,hb11⟩)
      have hS11:=aa (hS10.out.below hb11)
      have hT11:=aa (hT10.out.grg (g:=g) (ay.of hb11) (by omega))
      have hWs11:=aa (show lP w11 (w.heap.size+1) (.slice (some ⟨wb,0,none⟩) t.keys.length cW) (oy p t) from aZ hWs10.out (ay.of (g:=g) hb11) (by omega))
      clear hS10 hT10 hWs10 hI hb11
      go_wp2_with (go_at_call 145;refine (hNt.out _ hS11.out.rd).mono ?_;rintro e0 w12 ⟨rfl,hG12,hR12⟩)
      have hl12:=hR12.left
      have hS12:=hS11.out.step hG12 hR12
      have hWs12:lP w12 (w.heap.size+1) (.slice (some ⟨wb,0,none⟩) t.keys.length cW) (oy p t):=aZ hWs11.out hG12 (by omega)
      go_roundw
      case rel=>exact ⟨true,acc++ [x],ln+n,ae lx1,AN,cN,rfl,aa (by rw [Hu,Ie];exact hS12),aa (hT11.out.grg hG12 (by omega)),aa hWs12,hln2,aa (fun _=>⟨f,hn1.out⟩),aa (fun hq=>by cases hq)⟩
      case measure=>rw [hl0,hl12];omega
     |false=>
      rw [show bA (⟨#[44]⟩:ByteArray).data.toList lx1=false from h44] at hI
      replace hI:=aa hI
      have hn1:=hnx.out
      rw [if_neg (by rw [h44];decide)] at hn1
      replace hn1:=aa hn1
      clear hnx h44
      go_wp2_with (go_at_call 149;refine hI.out.mono ?_;rintro e0 w11 ⟨rfl,hb11⟩)
      have hS11:=hS10.out.below hb11
      have hl12:=hS11.rd.left
      have hWs11:lP w11 (w.heap.size+1) (.slice (some ⟨wb,0,none⟩) t.keys.length cW) (oy p t):=aZ hWs10.out (ay.of (g:=g) hb11) (by omega)
      go_roundw
      case rel=>exact ⟨false,acc++ [x],ln+n,lx1,AN,cN,rfl,aa (by rw [Hu,Ie];exact hS11),aa (hT10.out.grg (g:=g) (ay.of hb11) (by omega)),aa hWs11,hln2,aa (fun hq=>by cases hq),aa (fun _=>⟨hn1.out.1.symm,hn1.out.2.1.symm,hn1.out.2.2.symm⟩)⟩
      case measure=>rw [hl0,hl12];omega
  |false=>
   obtain ⟨e1,e2,e3⟩:=hmf.out rfl
   subst e1 e2 e3
   clear hmt hmf hWs hln hKd hkw
   obtain ⟨b',o',cp',hO⟩:=hS.out.rd.open_
   obtain ⟨ltr,bg,pos,le,ml,d0,df,k0,k1,k2,k3,k4,k5⟩:=hO
   obtain ⟨z0,z1,z2,z3,z4,z5,zf⟩:=hS.out.cells
   have bl:=hS.out.bl
   have hbl:b'<wr.heap.size:=by omega
   have lz:(0:Int)<(l2.length:Int):=by omega
   have dle:((pats.length:Int)==(t.keys.length:Int))=true:=by rw [beq_iff_eq];have:=hb4.out;omega
   have hA:=aa (fun (W:World)=>aY (af l2) 13 W)
   generalize af l2=tq at k0 k1 k2 k3 k4 k5 hA
   obtain ⟨kq,sq,wq,mq,pq⟩:=tq
   unfold g8 at hA
   simp only at k0 k1 k2 k3 k4 k5 hA
   generalize (⟨sq.toArray⟩:ByteArray)=SQ at k1 hA
   generalize ((mq / 18446744073709551616:Nat):Int)=hiq at k3 hA
   generalize ((mq % 18446744073709551616:Nat):Int)=loq at k4 hA
   have hgw:=aE (show Below wr.heap.size wr wr from Hf _ _) (Hh _)
   clear z0 z2 z3 z4 z5 zf df
   go_wp2_with fail
   refine bV ?_
   repeat (any_goals (first|go_big_quiet_step ((go_at_call 91;with_reducible exact Hi (hA.out _)))|quiet_step ((go_at_call 91;with_reducible exact Hi (hA.out _)))))
   refine wpQuiet_nil ?_
   intro w7 hw7
   replace hw7:=ac hw7
   have hS7:=aa (hS.out.below hw7)
   have hT7:=aa (hT.out.grg (g:=g) (ay.of hw7) (by omega))
   clear hgw k0 k1 k2 k3 k4 k5 d0 z1 bl hA hbl lz bg pos le ml ltr hS hT hw7
   have hI:=rq ⟨#[112,114,105,111]⟩ hS7.out.rd
   rcases nX hec1.out with ⟨i1,i2,i3,i4,i5⟩|⟨i1,i4,i5⟩
   ·rw [show bA (⟨#[112,114,105,111]⟩:ByteArray).data.toList l2=true from i1] at hI
    replace hI:=aa hI
    have hNt:=aa (fun (W:World) (hW:bb W g l2 V)=>jF hW)
    have hNu:=aa (fun (W:World) (hW:bb W g (ae l2) V)=>fB hW i2)
    have hPl:=aa (fun (W:World)=>Bm (af (ae l2)) 65536 W i3 (by decide) (by decide))
    rw [←i4] at hPl
    rw [←i5] at hNu
    clear i1 i2 i3 i4 i5
    generalize af l2=t2 at hNt
    obtain ⟨k2,s2,wd2,m2,pl2⟩:=t2
    unfold g8 at hNt
    simp only at hNt
    generalize (⟨s2.toArray⟩:ByteArray)=SS2 at hNt
    generalize ((m2 / 18446744073709551616:Nat):Int)=hi2 at hNt
    generalize ((m2 % 18446744073709551616:Nat):Int)=lo2 at hNt
    generalize af (ae l2)=t3 at hNu hPl
    obtain ⟨k3,s3,wd3,m3,pl3⟩:=t3
    unfold g8 at hNu hPl
    simp only at hNu hPl
    generalize (⟨s3.toArray⟩:ByteArray)=SS3 at hNu hPl
    generalize ((m3 / 18446744073709551616:Nat):Int)=hi3 at hNu hPl
    generalize ((m3 % 18446744073709551616:Nat):Int)=lo3 at hNu hPl
    go_upto_region 16 with (go_at_call 149;refine hI.out.mono ?_;rintro e0 w8 ⟨rfl,hb8⟩)
    have hS8:=aa (hS7.out.below hb8)
    have hT8:=aa (hT7.out.grg (g:=g) (ay.of hb8) (by omega))
    clear hS7 hT7 hI hb8
    go_upto_region 17 with (go_at_call 145;refine (hNt.out _ hS8.out.rd).mono ?_;rintro e0 w9 ⟨rfl,hG9,hR9⟩)
    have hS9:=aa (hS8.out.step hG9 hR9)
    have hT9:=aa (hT8.out.grg hG9 (by omega))
    clear hS8 hT8 hNt hG9 hR9
    go_upto_region 18 with (first|(go_at_call 151;refine (hNu.out _ hS9.out.rd).mono ?_;rintro e0 w10 ⟨rfl,hG10,hR10⟩;have hS10:=aa (hS9.out.step hG10 hR10);have hT10:=aa (hT9.out.grg hG10 (by omega)))|(go_at_call 150;refine (hPl.out _).mono ?_;rintro e0 w11 ⟨rfl,hb11⟩;have hS11:=aa (hS10.out.below hb11);have hT11:=aa (hT10.out.grg (g:=g) (ay.of hb11) (by omega));obtain ⟨z0,z1,z2,z3,z4,z5,f0,f1,f2,f3,f4,f5⟩:=hS11.out.cells;have bl11:=hS11.out.bl))
    have hS12:=aa (hS11.out.setPrio prio)
    have hT12:=aa (show gD (w11.setCell ⟨w.heap.size,3,none⟩ (.int .i64 prio)) rT Q1 Q2 Q3 Q4 t q1 q2 q3 q4 from by unfold gD;rw [cg (by omega)];exact hT11.out)
    clear hS9 hT9 hS10 hT10 hS11 hT11 hNu hPl hG10 hR10 hb11 z0 z1 z2 z3 z4 z5 f0 f1 f2 f3 f4 f5 bl11
    generalize w11.setCell ⟨w.heap.size,3,none⟩ (.int .i64 prio)=w12 at hS12 hT12 ⊢
    go_upto_region 19 with (go_at_call 146;refine (hW3.out _ hS12.out.rd).mono ?_;rintro e0 w13 ⟨rfl,hG13,hR13⟩)
    have hS13:=aa (hS12.out.step hG13 hR13)
    have hT13:=aa (hT12.out.grg hG13 (by omega))
    clear hS12 hT12 hG13 hR13 hW3
    obtain ⟨b',o',cp',hO⟩:=hS13.out.rd.open_
    obtain ⟨ltr,bg,pos,le,ml,d0,df,k0,k1,k2,k3,k4,k5⟩:=hO
    have hbl:b'<w13.heap.size:=by omega
    have lz:(0:Int)<((ae l3).length:Int):=by omega
    have hA:=aa (fun (W:World)=>aY (af (ae l3)) 7 W)
    generalize af (ae l3)=tq at k0 k1 k2 k3 k4 k5 hA
    obtain ⟨kq,sq,wq,mq,pq⟩:=tq
    unfold g8 at hA
    simp only at k0 k1 k2 k3 k4 k5 hA
    generalize (⟨sq.toArray⟩:ByteArray)=SQ at k1 hA
    generalize ((mq / 18446744073709551616:Nat):Int)=hiq at k3 hA
    generalize ((mq % 18446744073709551616:Nat):Int)=loq at k4 hA
    obtain ⟨w14,hw14,hb14,hs14,hl14,x0,x1,x2,x3,x4,x5⟩:=bD w13 kq wq hiq loq pq SQ
    have hK14:=aa (show fi w14 w13.heap.size kq SQ wq hiq loq pq from by rw [←hw14];exact bU w13 _ _ _ _ _ _)
    go_upto_region 20 with fail
    have hS14:=aa (hS13.out.below hb14.out)
    have hT14:=aa (hT13.out.grg (g:=g) (ay.of hb14.out) (by omega))
    have hrK:g<w13.heap.size∧w.heap.size<w13.heap.size:=⟨ltr,hS13.out.bl⟩
    clear hS13 hT13 hw14 hb14 hs14 hl14 x0 x1 x2 x3 x4 x5 k0 k1 k2 k3 k4 k5 d0 df hbl lz bg pos le ml ltr
    generalize w13.heap.size=rK at*
    obtain ⟨y0,y1,y2,y3,y4,y5,y6,y7,y8,y9,y10,y11,y12⟩:=hVc.out _ _ hS14.out.rd
    have ltr:=hS14.out.rd.lt
    clear y0 y1 y2 y3 y4 y5 y6 y7 y8 y9 y11 y12
    go_upto_region 21 with (go_at_call 90;refine (hNm2.out _ hS14.out.grg hS14.out.rd).mono ?_;rintro e0 w15 ⟨rfl,hG15,hR15⟩;have hS15:=aa (hS14.out.step hG15 hR15);have hT15:=aa (hT14.out.grg hG15 (by omega));have hK15:=aa (hK14.out.grg hG15 (by omega));obtain ⟨z0,z1,z2,z3,z4,z5,f0,f1,f2,f3,f4,f5⟩:=hS15.out.cells;have bl15:=hS15.out.bl)
    have hS16:=aa (hS15.out.setAct (j:Int))
    have hT16:=aa (hT15.out.far (b:=w.heap.size) (i:=4) (v:=.int .i64 (j:Int)) (by omega))
    have hK16:=aa (hK15.out.far (b:=w.heap.size) (i:=4) (v:=.int .i64 (j:Int)) (by omega))
    clear hS14 hT14 hK14 hS15 hT15 hK15 hG15 hR15 hNm2 y10 z0 z1 z2 z3 z4 z5 f0 f1 f2 f3 f4 f5 bl15 ltr
    generalize w15.setCell ⟨w.heap.size,4,none⟩ (.int .i64 (j:Int))=w16 at hS16 hT16 hK16 ⊢
    obtain ⟨x0,x1,x2,x3,x4,x5⟩:=hK16.out.cells
    obtain ⟨t0,t1,t2,t3,t4⟩:=hT16.out.cells
    obtain ⟨z0,z1,z2,z3,z4,z5,zf⟩:=hS16.out.cells
    have bl16:=hS16.out.bl
    have xl16:=hK16.out.lt
    have tl16:=hT16.out.lt
    have hCt:=aa (fun d os=>(d9 Q3 q3 t.acts (j:Int) (Ht (redrawn w16 d) os) ((hAc.out _ (hS16.out.grg.trans (ay.of (below_regrown w16 d os)))).more ai (Hj (Hs hS16.out.rd.lt) (below_regrown w16 d os).size))).mono fun e0 w' h=>(⟨h.1.trans (by rw [decide_eq_true hed4.out]),h.2 ▸ Hf _ _⟩:e0=.returned (.bool true)∧Below (Ht (redrawn w16 d) os).heap.size (Ht (redrawn w16 d) os) w'))
    have hgw:=aE (show Below w16.heap.size w16 w16 from Hf _ _) (Hh _)
    clear t0 t1 t3 t4 z0 z1 z2 z3 z5 zf
    go_wp2_with fail
    refine bV ?_
    repeat (any_goals (first|go_big_quiet_step (first|(go_at_call 113;with_reducible exact Hi (hCt.out _ _))|(go_at_call 91;with_reducible exact Hi (hA.out _)))|quiet_step (first|(go_at_call 113;with_reducible exact Hi (hCt.out _ _))|(go_at_call 91;with_reducible exact Hi (hA.out _)))))
    refine wpQuiet_nil ?_
    intro w17 hw17
    replace hw17:=ac hw17
    have hS17:=aa (hS16.out.below hw17)
    clear hS16 hT16 hK16 hCt hgw hA x0 x1 x2 x3 x4 x5 t2 z4 bl16 xl16 tl16 hw17 hAc
    obtain ⟨y0,y1,y2,y3,y4,y5,y6,y7,y8,y9,y10,y11,y12⟩:=hVc.out _ _ hS17.out.rd
    obtain ⟨z0,z1,z2,z3,z4,z5,zf⟩:=hS17.out.cells
    have pc:=hPc.out _ hS17.out.grg
    have bl17:=hS17.out.bl
    have ltr:=hS17.out.rd.lt
    have abl:ab<w17.heap.size:=by omega
    have hArg:=aa (fun (W:World) (hW:Below w17.heap.size w17 W)=>(hAr.out W (hS17.out.grg.trans (ay.of hW)) (hS17.out.rd.below hW ltr)).mono fun e0 w' h=>(by
     obtain ⟨v,rfl,hnu,hG,hR⟩:=h
     have hS18:=(hS17.out.below hW).step hG hR
     have hnu':oN w' (w.heap.size+1) v args:=⟨hnu.1,du hnu.2 (Hj bl17 hW.size)⟩
     obtain ⟨AV,cV,hv⟩:=bO hnu.2
     subst hv
     exact ⟨AV,cV,rfl,aa hS18,aa hnu',hS18.cells.2.2.2.2.2.1,hS18.cells.2.2.2.2.2.2.2.2.2.2.2,hS18.bl⟩:∃ AV cV,e0=.returned (.slice AV args.length cV)∧Hid (g9 w w' g l5 V (k:Int) (.slice AP pats.length cP) pats len prio (j:Int) (.slice none 0 0) [])∧Hid (oN w' (w.heap.size+1) (.slice AV args.length cV) args)∧w'.cell? ⟨w.heap.size,5,none⟩=some (.slice none 0 0)∧w'.frozen? ⟨w.heap.size,5,none⟩=false∧w.heap.size<w'.heap.size))
    clear y0 y1 y2 y4 y5 y6 y7 y8 y9 y10 y11 y12 z0 z1 z2 z3 z5 zf hAr hPc
    go_upto_region 22 with fail
    go_cut [] (fun wx=>∃ AV cV,Hid (g9 w wx g l5 V (k:Int) (.slice AP pats.length cP) pats len prio (j:Int) (.slice AV args.length cV) args))
    case first=>
     go_region_with (go_at_call 152;refine (hArg.out _ (by exact (Hf _ _).drew)).mono ?_;rintro e0 w18 ⟨AV,cV,rfl,hS18,hnu18,u5,v5,bl18⟩)
     all_goals go_wp2
     all_goals go_meet
     all_goals exact ⟨AV,cV,aa (hS18.out.setArgs hnu18.out)⟩
    case rest=>
     obtain ⟨AV,cV,hS18⟩:=hcut
     obtain ⟨w18,rfl⟩:∃ w18:World,w18=wc:=⟨_,rfl⟩
     clear hArg y3 z4 pc bl17 abl ltr hS17
     go_upto_region 24 with (go_at_call 146;refine (hW4.out _ hS18.out.rd).mono ?_;rintro e0 w19 ⟨rfl,hG19,hR19⟩)
     have hS19:=aa (hS18.out.step hG19 hR19)
     clear hS18 hG19 hR19 hW4
     obtain ⟨z0,z1,z2,z3,z4,z5,f0,f1,f2,f3,f4,f5⟩:=hS19.out.cells
     have bl19:=hS19.out.bl
     go_wp2
     obtain ⟨r1,r2,r3,r4⟩:=hS19.out.fin (.int .i64 (k:Int)) (.slice AP pats.length cP) (.int .i64 len) (.int .i64 prio) (.int .i64 (j:Int)) (.slice AV args.length cV)
     refine bodyPost_ret (v:=.agg #[.int .i64 (k:Int),.slice AP pats.length cP,.int .i64 len,.int .i64 prio,.int .i64 (j:Int),.slice AV args.length cV]) (by simp [results,results92,go_sem,z0,z1,z2,z3,z4,z5,bl19]) rfl ⟨_,_,rfl,r1,r2,r3,r4⟩
   ·rw [show bA (⟨#[112,114,105,111]⟩:ByteArray).data.toList l2=false from i1] at hI
    replace hI:=aa hI
    subst i4
    subst i5
    clear i1
    go_upto_region 18 with (go_at_call 149;refine hI.out.mono ?_;rintro e0 w12 ⟨rfl,hb8⟩)
    have hS12:=aa (hS7.out.below hb8)
    have hT12:=aa (hT7.out.grg (g:=g) (ay.of hb8) (by omega))
    clear hS7 hT7 hI hb8
    go_upto_region 19 with (go_at_call 146;refine (hW3.out _ hS12.out.rd).mono ?_;rintro e0 w13 ⟨rfl,hG13,hR13⟩)
    have hS13:=aa (hS12.out.step hG13 hR13)
    have hT13:=aa (hT12.out.grg hG13 (by omega))
    clear hS12 hT12 hG13 hR13 hW3
    obtain ⟨b',o',cp',hO⟩:=hS13.out.rd.open_
    obtain ⟨ltr,bg,pos,le,ml,d0,df,k0,k1,k2,k3,k4,k5⟩:=hO
    have hbl:b'<w13.heap.size:=by omega
    have lz:(0:Int)<((ae l3).length:Int):=by omega
    have hA:=aa (fun (W:World)=>aY (af (ae l3)) 7 W)
    generalize af (ae l3)=tq at k0 k1 k2 k3 k4 k5 hA
    obtain ⟨kq,sq,wq,mq,pq⟩:=tq
    unfold g8 at hA
    simp only at k0 k1 k2 k3 k4 k5 hA
    generalize (⟨sq.toArray⟩:ByteArray)=SQ at k1 hA
    generalize ((mq / 18446744073709551616:Nat):Int)=hiq at k3 hA
    generalize ((mq % 18446744073709551616:Nat):Int)=loq at k4 hA
    obtain ⟨w14,hw14,hb14,hs14,hl14,x0,x1,x2,x3,x4,x5⟩:=bD w13 kq wq hiq loq pq SQ
    have hK14:=aa (show fi w14 w13.heap.size kq SQ wq hiq loq pq from by rw [←hw14];exact bU w13 _ _ _ _ _ _)
    go_upto_region 20 with fail
    have hS14:=aa (hS13.out.below hb14.out)
    have hT14:=aa (hT13.out.grg (g:=g) (ay.of hb14.out) (by omega))
    have hrK:g<w13.heap.size∧w.heap.size<w13.heap.size:=⟨ltr,hS13.out.bl⟩
    clear hS13 hT13 hw14 hb14 hs14 hl14 x0 x1 x2 x3 x4 x5 k0 k1 k2 k3 k4 k5 d0 df hbl lz bg pos le ml ltr
    generalize w13.heap.size=rK at*
    obtain ⟨y0,y1,y2,y3,y4,y5,y6,y7,y8,y9,y10,y11,y12⟩:=hVc.out _ _ hS14.out.rd
    have ltr:=hS14.out.rd.lt
    clear y0 y1 y2 y3 y4 y5 y6 y7 y8 y9 y11 y12
    go_upto_region 21 with (go_at_call 90;refine (hNm2.out _ hS14.out.grg hS14.out.rd).mono ?_;rintro e0 w15 ⟨rfl,hG15,hR15⟩;have hS15:=aa (hS14.out.step hG15 hR15);have hT15:=aa (hT14.out.grg hG15 (by omega));have hK15:=aa (hK14.out.grg hG15 (by omega));obtain ⟨z0,z1,z2,z3,z4,z5,f0,f1,f2,f3,f4,f5⟩:=hS15.out.cells;have bl15:=hS15.out.bl)
    have hS16:=aa (hS15.out.setAct (j:Int))
    have hT16:=aa (hT15.out.far (b:=w.heap.size) (i:=4) (v:=.int .i64 (j:Int)) (by omega))
    have hK16:=aa (hK15.out.far (b:=w.heap.size) (i:=4) (v:=.int .i64 (j:Int)) (by omega))
    clear hS14 hT14 hK14 hS15 hT15 hK15 hG15 hR15 hNm2 y10 z0 z1 z2 z3 z4 z5 f0 f1 f2 f3 f4 f5 bl15 ltr
    generalize w15.setCell ⟨w.heap.size,4,none⟩ (.int .i64 (j:Int))=w16 at hS16 hT16 hK16 ⊢
    obtain ⟨x0,x1,x2,x3,x4,x5⟩:=hK16.out.cells
    obtain ⟨t0,t1,t2,t3,t4⟩:=hT16.out.cells
    obtain ⟨z0,z1,z2,z3,z4,z5,zf⟩:=hS16.out.cells
    have bl16:=hS16.out.bl
    have xl16:=hK16.out.lt
    have tl16:=hT16.out.lt
    have hCt:=aa (fun d os=>(d9 Q3 q3 t.acts (j:Int) (Ht (redrawn w16 d) os) ((hAc.out _ (hS16.out.grg.trans (ay.of (below_regrown w16 d os)))).more ai (Hj (Hs hS16.out.rd.lt) (below_regrown w16 d os).size))).mono fun e0 w' h=>(⟨h.1.trans (by rw [decide_eq_true hed4.out]),h.2 ▸ Hf _ _⟩:e0=.returned (.bool true)∧Below (Ht (redrawn w16 d) os).heap.size (Ht (redrawn w16 d) os) w'))
    have hgw:=aE (show Below w16.heap.size w16 w16 from Hf _ _) (Hh _)
    clear t0 t1 t3 t4 z0 z1 z2 z3 z5 zf
    go_wp2_with fail
    refine bV ?_
    repeat (any_goals (first|go_big_quiet_step (first|(go_at_call 113;with_reducible exact Hi (hCt.out _ _))|(go_at_call 91;with_reducible exact Hi (hA.out _)))|quiet_step (first|(go_at_call 113;with_reducible exact Hi (hCt.out _ _))|(go_at_call 91;with_reducible exact Hi (hA.out _)))))
    refine wpQuiet_nil ?_
    intro w17 hw17
    replace hw17:=ac hw17
    have hS17:=aa (hS16.out.below hw17)
    clear hS16 hT16 hK16 hCt hgw hA x0 x1 x2 x3 x4 x5 t2 z4 bl16 xl16 tl16 hw17 hAc
    obtain ⟨y0,y1,y2,y3,y4,y5,y6,y7,y8,y9,y10,y11,y12⟩:=hVc.out _ _ hS17.out.rd
    obtain ⟨z0,z1,z2,z3,z4,z5,zf⟩:=hS17.out.cells
    have pc:=hPc.out _ hS17.out.grg
    have bl17:=hS17.out.bl
    have ltr:=hS17.out.rd.lt
    have abl:ab<w17.heap.size:=by omega
    have hArg:=aa (fun (W:World) (hW:Below w17.heap.size w17 W)=>(hAr.out W (hS17.out.grg.trans (ay.of hW)) (hS17.out.rd.below hW ltr)).mono fun e0 w' h=>(by
     obtain ⟨v,rfl,hnu,hG,hR⟩:=h
     have hS18:=(hS17.out.below hW).step hG hR
     have hnu':oN w' (w.heap.size+1) v args:=⟨hnu.1,du hnu.2 (Hj bl17 hW.size)⟩
     obtain ⟨AV,cV,hv⟩:=bO hnu.2
     subst hv
     exact ⟨AV,cV,rfl,aa hS18,aa hnu',hS18.cells.2.2.2.2.2.1,hS18.cells.2.2.2.2.2.2.2.2.2.2.2,hS18.bl⟩:∃ AV cV,e0=.returned (.slice AV args.length cV)∧Hid (g9 w w' g l5 V (k:Int) (.slice AP pats.length cP) pats len 0 (j:Int) (.slice none 0 0) [])∧Hid (oN w' (w.heap.size+1) (.slice AV args.length cV) args)∧w'.cell? ⟨w.heap.size,5,none⟩=some (.slice none 0 0)∧w'.frozen? ⟨w.heap.size,5,none⟩=false∧w.heap.size<w'.heap.size))
    clear y0 y1 y2 y4 y5 y6 y7 y8 y9 y10 y11 y12 z0 z1 z2 z3 z5 zf hAr hPc
    go_upto_region 22 with fail
    go_cut [] (fun wx=>∃ AV cV,Hid (g9 w wx g l5 V (k:Int) (.slice AP pats.length cP) pats len 0 (j:Int) (.slice AV args.length cV) args))
    case first=>
     go_region_with (go_at_call 152;refine (hArg.out _ (by exact (Hf _ _).drew)).mono ?_;rintro e0 w18 ⟨AV,cV,rfl,hS18,hnu18,u5,v5,bl18⟩)
     all_goals go_wp2
     all_goals go_meet
     all_goals exact ⟨AV,cV,aa (hS18.out.setArgs hnu18.out)⟩
    case rest=>
     obtain ⟨AV,cV,hS18⟩:=hcut
     obtain ⟨w18,rfl⟩:∃ w18:World,w18=wc:=⟨_,rfl⟩
     clear hArg y3 z4 pc bl17 abl ltr hS17
     go_upto_region 24 with (go_at_call 146;refine (hW4.out _ hS18.out.rd).mono ?_;rintro e0 w19 ⟨rfl,hG19,hR19⟩)
     have hS19:=aa (hS18.out.step hG19 hR19)
     clear hS18 hG19 hR19 hW4
     obtain ⟨z0,z1,z2,z3,z4,z5,f0,f1,f2,f3,f4,f5⟩:=hS19.out.cells
     have bl19:=hS19.out.bl
     go_wp2
     obtain ⟨r1,r2,r3,r4⟩:=hS19.out.fin (.int .i64 (k:Int)) (.slice AP pats.length cP) (.int .i64 len) (.int .i64 0) (.int .i64 (j:Int)) (.slice AV args.length cV)
     refine bodyPost_ret (v:=.agg #[.int .i64 (k:Int),.slice AP pats.length cP,.int .i64 len,.int .i64 0,.int .i64 (j:Int),.slice AV args.length cV]) (by simp [results,results92,go_sem,z0,z1,z2,z3,z4,z5,bl19]) rfl ⟨_,_,rfl,r1,r2,r3,r4⟩
end
end Go.Proofs.YtiebolhmdhdagaaGreatDoor

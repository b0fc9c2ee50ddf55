import Derived.Test.YtiebolhmdhdagaaGreatDoorEwp32
set_option linter.all false
set_option maxHeartbeats 16000000
set_option maxRecDepth 100000
open Go.Proofs.Tryz
namespace Go.Proofs.YtiebolhmdhdagaaGreatDoor
open _root_.Nat renaming lt_of_lt_of_le→He, le_refl→Hh, le_of_lt→Hs, lt_trans→HB, ne_of_lt→HW
open _root_.Go.RowKit.Below renaming refl→Hf
open _root_.Go.Calls renaming regrown_of→Hi
open _root_.List renaming getElem?_eq_getElem→Hn, getElem_mem→Ho, getD_eq_getElem?_getD→HT
open Go.RowKit
section
attribute [local go_sem] run_panic_iface
attribute [local go_sem ↓] cU
structure Dz (pl g:Nat) (w:World) (e:Exit) (a:Act) (W:World):Prop where
 d:a.defers= []
 out:∃ c,e=.panic c∧Ending.panicked c=Dc (9,pl)∧ay g w W
instance GK {pl g:Nat} {w:World} {e:Exit} {a:Act} {d:Option Tmp} {v:Value} {W:World} (h:Dz pl g w e (a.put d v) W):CoeDep (Dz pl g w e (a.put d v) W) h (Dz pl g w e a W):=⟨⟨by have:=h.d;unfold Act.put at this;split at this<;>exact this,h.out⟩⟩
theorem re (A1 A2 A3 A4 A5 A6 A7 A8 A9 A10 A11 A12:Option Addr) (p:Lp) (c1 c2 c3 c4 c5 c6 c7 c8 c9 c10 c11 c12:Nat) (SW:Value) {g:Nat} {l l1:List Tk} {mm:Int} (w:World) (h:bb w g l #[.slice A1 p.heads.length c1,.slice A2 p.metas.length c2,.slice A3 p.steps.length c3,.slice A4 p.acts.length c4,.slice A5 p.tabs.length c5,.slice A6 p.control.length c6,.slice A7 p.emit.length c7,.slice A8 p.nh.length c8,.slice A9 p.nf.length c9,.slice A10 p.nm.length c10,.slice A11 p.na.length c11,.slice A12 p.nt.length c12,SW]) (hg0:2<g) (hm:w.cell? ⟨2,0,none⟩=some (.int .i64 mm)) (hP:cJ w g A1 A2 A3 A4 A5 A6 A7 A8 A9 A10 A11 A12 p) (hmay:bW p=true)
  (k:Nat) (hk1:k<p.tabs.length) (ea1:bA [46] l=true) (ea2:rm (af (ae l))=true) (ea3:iH (ae l)∈p.nt) (ea4:(k:Int)=aU p.nt (iH (ae l))) (eb1:bA [58] (ae (ae l))=true) (eb2:l1=ae (ae (ae l)))
  (hkl:0<p.tabs[k].kinds.length) (hkd:p.tabs[k].kinds[0]=2) (p1:bA [95] l1=false) (p2:(af l1).kind=2) (p3:bA [47] (ae l1)=false) (p4:bA cH (ae l1)=false):
  Calls prog 92 #[.pointer (some ⟨g,0,none⟩)] w fun r w'=>r=Dc (9,(af l1).pl)∧ay g w w':=by
 have lt:=h.lt
 obtain ⟨plx,hplx⟩:∃ x,(af l1).pl=x:=⟨_,rfl⟩
 rw [hplx]
 replace hplx:=aa hplx
 have htm:p.tabs[k]∈p.tabs:=Ho hk1
 obtain ⟨tp1,tp2,tp3,tp4,tp5⟩:=dr ((ck hmay).2.2 _ htm)
 have hLp:=aa (fun (W:World) (hG:ay g w W)=>hP.grgE A1 A2 A3 A4 A5 A6 A7 A8 A9 A10 A11 A12 p c1 c2 c3 c4 c5 c6 c7 c8 c9 c10 c11 c12 hG lt)
 have hmK:=aa (fun (W:World) (hG:ay g w W)=>(hG.cell (i:=0) (by omega) (by omega)).trans hm)
 obtain ⟨tb,to',ecs,hA5,htb,hn5,hcell5,Q1,Q2,Q3,Q4,q1,q2,q3,q4,rfl,s1,s2,s3,s4,-,-⟩:=hP.tabs.2 k _ (Hn hk1)
 have tc0:w.cell? ⟨tb,to'+k*5,none⟩=some (.slice Q1 p.tabs[k].keys.length q1):=hcell5 0 _ rfl
 have tc1:w.cell? ⟨tb,to'+k*5+1,none⟩=some (.slice Q2 p.tabs[k].kinds.length q2):=hcell5 1 _ rfl
 have tc2:w.cell? ⟨tb,to'+k*5+2,none⟩=some (.slice Q3 p.tabs[k].acts.length q3):=hcell5 2 _ rfl
 have tc3:w.cell? ⟨tb,to'+k*5+3,none⟩=some (.int .i64 p.tabs[k].run.act):=hcell5 3 _ rfl
 have tc4:w.cell? ⟨tb,to'+k*5+4,none⟩=some (.slice Q4 p.tabs[k].run.args.length q4):=hcell5 4 _ rfl
 
 have hW1:=aa (fun (W:World) (hR:bb W g l #[.slice A1 p.heads.length c1,.slice A2 p.metas.length c2,.slice A3 p.steps.length c3,.slice A4 p.acts.length c4,.slice A5 p.tabs.length c5,.slice A6 p.control.length c6,.slice A7 p.emit.length c7,.slice A8 p.nh.length c8,.slice A9 p.nf.length c9,.slice A10 p.nm.length c10,.slice A11 p.na.length c11,.slice A12 p.nt.length c12,SW])=>kZ ⟨#[46]⟩ hR ea1)
 have hNm1:=aa (fun (W:World) (hG:ay g w W) (hR:bb W g (ae l) #[.slice A1 p.heads.length c1,.slice A2 p.metas.length c2,.slice A3 p.steps.length c3,.slice A4 p.acts.length c4,.slice A5 p.tabs.length c5,.slice A6 p.control.length c6,.slice A7 p.emit.length c7,.slice A8 p.nh.length c8,.slice A9 p.nf.length c9,.slice A10 p.nm.length c10,.slice A11 p.na.length c11,.slice A12 p.nt.length c12,SW])=>sJ (cap:=c12) hR hg0 (hmK.out W hG) ((hLp.out W hG).nt) ea2 ea3)
 rw [←ea4] at hNm1
 have hWd:=aa (fun (W:World) (hG:ay g w W) (hR:bb W g (ae (ae l)) #[.slice A1 p.heads.length c1,.slice A2 p.metas.length c2,.slice A3 p.steps.length c3,.slice A4 p.acts.length c4,.slice A5 p.tabs.length c5,.slice A6 p.control.length c6,.slice A7 p.emit.length c7,.slice A8 p.nh.length c8,.slice A9 p.nf.length c9,.slice A10 p.nm.length c10,.slice A11 p.na.length c11,.slice A12 p.nt.length c12,SW])=>th A1 A2 A3 A4 A5 A6 A7 A8 A9 A10 A11 A12 p c1 c2 c3 c4 c5 c6 c7 c8 c9 c10 c11 c12 SW p.tabs[k] Q1 Q2 Q3 Q4 q1 q2 q3 q4 W hR (hLp.out W hG) (s1.grgE aS hG lt) (by omega))
 have hW2:=aa (fun (W:World) (hR:bb W g (ae (ae l)) #[.slice A1 p.heads.length c1,.slice A2 p.metas.length c2,.slice A3 p.steps.length c3,.slice A4 p.acts.length c4,.slice A5 p.tabs.length c5,.slice A6 p.control.length c6,.slice A7 p.emit.length c7,.slice A8 p.nh.length c8,.slice A9 p.nf.length c9,.slice A10 p.nm.length c10,.slice A11 p.na.length c11,.slice A12 p.nt.length c12,SW])=>kZ ⟨#[58]⟩ hR eb1)
 rw [←eb2] at hW2
 have hKd:=aa (fun (W:World) (hG:ay g w W)=>s2.grgE bX hG lt)
 have hTc:=aa (fun (W:World) (hG:ay g w W)=>(⟨(hG.cell (HB htb lt) (HW htb)).trans tc0,(hG.cell (HB htb lt) (HW htb)).trans tc1,(hG.cell (HB htb lt) (HW htb)).trans tc2,(hG.cell (HB htb lt) (HW htb)).trans tc3,(hG.cell (HB htb lt) (HW htb)).trans tc4⟩:W.cell? ⟨tb,to'+k*5,none⟩=some (.slice Q1 p.tabs[k].keys.length q1)∧W.cell? ⟨tb,to'+k*5+1,none⟩=some (.slice Q2 p.tabs[k].kinds.length q2)∧W.cell? ⟨tb,to'+k*5+2,none⟩=some (.slice Q3 p.tabs[k].acts.length q3)∧W.cell? ⟨tb,to'+k*5+3,none⟩=some (.int .i64 p.tabs[k].run.act)∧W.cell? ⟨tb,to'+k*5+4,none⟩=some (.slice Q4 p.tabs[k].run.args.length q4)))
 have hVc:=aa (fun (W:World) (lx:List Tk) (hR:bb W g lx #[.slice A1 p.heads.length c1,.slice A2 p.metas.length c2,.slice A3 p.steps.length c3,.slice A4 p.acts.length c4,.slice A5 p.tabs.length c5,.slice A6 p.control.length c6,.slice A7 p.emit.length c7,.slice A8 p.nh.length c8,.slice A9 p.nf.length c9,.slice A10 p.nm.length c10,.slice A11 p.na.length c11,.slice A12 p.nt.length c12,SW])=>hR.cells13)
 generalize (#[.slice A1 p.heads.length c1,.slice A2 p.metas.length c2,.slice A3 p.steps.length c3,.slice A4 p.acts.length c4,.slice A5 p.tabs.length c5,.slice A6 p.control.length c6,.slice A7 p.emit.length c7,.slice A8 p.nh.length c8,.slice A9 p.nf.length c9,.slice A10 p.nm.length c10,.slice A11 p.na.length c11,.slice A12 p.nt.length c12,SW]:Array Value)=V at*
 have hkz:(k:Int)<(p.tabs.length:Int):=by omega
 have lt5:=hP.tabs.len
 have htp:=aa (⟨tp2,tp3⟩:p.tabs[k].keys.length≤4∧p.tabs[k].kinds.length=p.tabs[k].keys.length)
 have hkinds:=(s2.len)
 subst hA5
 generalize p.tabs[k]=t at*
 have hpk:=aa (fun (W:World) (hR:bb W g l1 V)=>show Calls prog 148 #[.pointer (some ⟨g,0,none⟩),.int .u8 t.kinds[0],.int .i64 (m7 p t 0)] W fun e w'=>e=Dc (9,plx)∧ay g W w' from by rw [←hplx.out];exact uJ t.kinds[0] (m7 p t 0) hR p1 p2 p3 p4 hkd)
 have hl1:0<l1.length:=by
  cases l1 with
  |nil=>cases p2
  |cons x xs=>simp
 clear tc0 tc1 tc2 tc3 tc4 s1 s2 s3 s4 ea1 ea2 ea3 ea4 eb1 eb2 hcell5 hn5 tp1 tp2 tp3 tp4 tp5 htm hP hmK hLp hm hmay p1 p2 p3 p4 hkd
 obtain ⟨wa,hwa,hsa,hba,-,-⟩:=ak w #[.int .i64 0,.slice none 0 0,.int .i64 0,.int .i64 0,.int .i64 0,.slice none 0 0] 57
 have hS0:=aa (show g9 w wa g l V 0 (.slice none 0 0) [] 0 0 0 (.slice none 0 0) [] from ⟨ay.of hba,h.below hba lt,by rw [←hwa];exact heap_alloc_new w _,⟨fun x hx=>by simp at hx,World.ownsRow_nil _ _ _ _⟩,⟨fun x hx=>by simp at hx,World.ownsRow_nil _ _ _ _⟩,lt⟩)
 replace hsa:=aa hsa
 clear hba h
 go_enter func92,ntmps92
 go_upto_region 2 with (go_at_call 146;refine (hW1.out _ hS0.out.rd).mono ?_;rintro e0 w1 ⟨rfl,hG1,hR1⟩)
 have hS1:=aa (hS0.out.step hG1 hR1)
 obtain ⟨y0,y1,y2,y3,y4,y5,y6,y7,y8,y9,y10,y11,y12⟩:=hVc.out _ _ hR1
 have ltr:=hR1.lt
 clear hG1 hR1 hS0 hW1 y0 y1 y2 y3 y4 y5 y6 y7 y8 y9 y10 y12
 go_upto_region 3 with (go_at_call 90;refine (hNm1.out _ hS1.out.grg hS1.out.rd).mono ?_;rintro e0 w2 ⟨rfl,hG2,hR2⟩;have hS2:=aa (hS1.out.step hG2 hR2);obtain ⟨z0,z1,z2,z3,z4,z5,f0,f1,f2,f3,f4,f5⟩:=hS2.out.cells;have bl2:=hS2.out.bl)
 have hS3:=aa (hS2.out.setTab (k:Int))
 clear hG2 hR2 hS1 hS2 hNm1 z0 z1 z2 z3 z4 z5 f0 f1 f2 f3 f4 f5 y11
 generalize w2.setCell ⟨w.heap.size,0,none⟩ (.int .i64 (k:Int))=w3 at hS3 ⊢
 obtain ⟨y0,y1,y2,y3,y4,y5,y6,y7,y8,y9,y10,y11,y12⟩:=hVc.out _ _ hS3.out.rd
 obtain ⟨z0,z1,z2,z3,z4,z5,f0,f1,f2,f3,f4,f5⟩:=hS3.out.cells
 obtain ⟨t0,t1,t2,t3,t4⟩:=hTc.out _ hS3.out.grg
 have bl3:=hS3.out.bl
 have ltr:=hS3.out.rd.lt
 have ltb:tb<w3.heap.size:=by omega
 clear bl2 y0 y1 y2 y3 y5 y6 y7 y8 y9 y10 y11 y12 z1 z2 z3 z4 z5 f0 f1 f2 f3 f4 f5
 go_region
 have hT4:=aa (show gD (w3.alloc (.cells #[.slice Q1 t.keys.length q1,.slice Q2 t.kinds.length q2,.slice Q3 t.acts.length q3,.int .i64 t.run.act,.slice Q4 t.run.args.length q4] 108)).drew w3.heap.size Q1 Q2 Q3 Q4 t q1 q2 q3 q4 from heap_alloc_new w3 _)
 have hS4:=aa (hS3.out.below (((Hf w3.heap.size w3).alloc (Hh _) (.cells #[.slice Q1 t.keys.length q1,.slice Q2 t.kinds.length q2,.slice Q3 t.acts.length q3,.int .i64 t.run.act,.slice Q4 t.run.args.length q4] 108)).drew))
 have hrT:g<w3.heap.size∧w.heap.size<w3.heap.size:=⟨ltr,bl3⟩
 generalize (w3.alloc (.cells #[.slice Q1 t.keys.length q1,.slice Q2 t.kinds.length q2,.slice Q3 t.acts.length q3,.int .i64 t.run.act,.slice Q4 t.run.args.length q4] 108)).drew=w4 at hT4 hS4 ⊢
 clear hS3 z0 t0 t1 t2 t3 t4 bl3 ltr ltb y4
 generalize w3.heap.size=rT at*
 obtain ⟨t0,t1,t2,t3,t4⟩:=hT4.out.cells
 have htl:=hT4.out.lt
 go_upto_region 5 with (go_at_call 147;refine (hWd.out _ hS4.out.grg hS4.out.rd).mono ?_;rintro e0 w5 ⟨vw,rfl,hws5,hb5⟩)
 obtain ⟨AW,cW,hvw⟩:=bO hws5
 rw [fC] at hvw
 subst hvw
 have hWs5:=aa (show lP w5 (w.heap.size+1) (.slice AW t.keys.length cW) (oy p t) from du hws5 hS4.out.bl)
 have hS5:=aa (hS4.out.below hb5)
 have hT5:=aa (hT4.out.grg (g:=g) (ay.of hb5) (by omega))
 clear hS4 hT4 hws5 hb5 t0 t1 t2 t3 t4 htl hWd
 go_upto_region 6 with (go_at_call 146;refine (hW2.out _ hS5.out.rd).mono ?_;rintro e0 w6 ⟨rfl,hG6,hR6⟩)
 have hS6:=aa (hS5.out.step hG6 hR6)
 have hT6:=aa (hT5.out.grg hG6 (by omega))
 have hWs6:=aa (show lP w6 (w.heap.size+1) (.slice AW t.keys.length cW) (oy p t) from aZ hWs5.out hG6 (by omega))
 clear hS5 hT5 hWs5 hG6 hR6 hW2
 go_wp2
 go_loopw [5,6,7] (fun v5 _ _ wr=>v5=.bool true∧Hid (g9 w wr g l1 V (k:Int) (.slice none 0 0) [] 0 0 0 (.slice none 0 0) [])∧Hid (gD wr rT Q1 Q2 Q3 Q4 t q1 q2 q3 q4)∧Hid (lP wr (w.heap.size+1) (.slice AW t.keys.length cW) (oy p t))) (fun _ _ _ wr=>nN g wr)
 case atStart=>exact ⟨rfl,hS6,hT6,hWs6⟩
 case round=>
  clear hS6 hT6 hWs6
  obtain ⟨rfl,hS,hT,hWs⟩:=hrel
  have hac:0<t.keys.length:=by have:=htp.out.2;omega
  have hacz:(0:Int)<(t.keys.length:Int):=by omega
  have hkdz:(0:Int)<(t.kinds.length:Int):=by omega
  have dac:decide ((0:Int)<(t.keys.length:Int))=true:=decide_eq_true hacz
  obtain ⟨kb,ko,hQ2,hkb,-⟩:=(hKd.out wr hS.out.grg).byte hkl
  have hkc:=aa (fun (W:World) (hG:ay g w W)=>show W.cell? ⟨kb,ko,none⟩=some (.int .u8 t.kinds[0]) from by
   obtain ⟨kb',ko',hQ',hkb',hc'⟩:=(hKd.out W hG).byte hkl
   rw [hQ2] at hQ'
   injection hQ' with hQ'
   injection hQ' with e1 e2 e3
   subst e1 e2
   exact hc')
  obtain ⟨wb,hAW,hwb0,hwb1,-⟩:=hWs.out.at_ (i:=0) (by rw [fC];exact hac)
  have hwc:=aa (fun (W:World) (hW:lP W (w.heap.size+1) (.slice AW t.keys.length cW) (oy p t))=>show wb<W.heap.size∧W.cell? ⟨wb,0,none⟩=some (.int .i64 (m7 p t 0)) from by
   obtain ⟨wb',hA',-,hb',hc'⟩:=hW.at_ (i:=0) (by rw [fC];exact hac)
   rw [hAW] at hA'
   injection hA' with hA'
   injection hA' with e1 e2 e3
   subst e1
   have h9:=BE (p:=p) hac
   rw [Hn (by rw [fC];exact hac)] at h9
   injection h9 with h9
   rw [h9] at hc'
   exact ⟨hb',hc'⟩)
  subst hQ2
  subst hAW
  generalize t.kinds[0]=kd at hpk hkc
  generalize m7 p t 0=yw at hpk hwc
  obtain ⟨b',o',cp',hO⟩:=hS.out.rd.open_
  obtain ⟨ltr,bg,pos,le,ml,d0,df,k0,k1,k2,k3,k4,k5⟩:=hO
  obtain ⟨z0,z1,z2,z3,z4,z5,zf⟩:=hS.out.cells
  have bl:=hS.out.bl
  have hbl:b'<wr.heap.size:=by omega
  have lz:(0:Int)<(l1.length:Int):=by omega
  have hA:=aa (fun (W:World)=>aY (af l1) 5 W)
  generalize (af l1)=tq at k0 k1 k2 k3 k4 k5 hA
  obtain ⟨kq,sq,wq,mq,pq⟩:=tq
  unfold g8 at hA
  simp only at k0 k1 k2 k3 k4 k5 hA
  generalize (⟨sq.toArray⟩:ByteArray)=SQ at k1 hA
  generalize ((mq / 18446744073709551616:Nat):Int)=hiq at k3 hA
  generalize ((mq % 18446744073709551616:Nat):Int)=loq at k4 hA
  have hgw:=aE (show Below wr.heap.size wr wr from Hf _ _) (Hh _)
  clear z0 z2 z3 z4 z5 zf df
  go_wp2_with fail
  refine bV ?_
  repeat (any_goals (first|go_big_quiet_step ((go_at_call 91;with_reducible exact Hi (hA.out _)))|quiet_step ((go_at_call 91;with_reducible exact Hi (hA.out _)))))
  refine wpQuiet_nil ?_
  intro w7 hw7
  replace hw7:=ac hw7
  have hS7:=aa (hS.out.below hw7)
  have hT7:=aa (hT.out.grg (g:=g) (ay.of hw7) (by omega))
  have hWs7:=aa (show lP w7 (w.heap.size+1) (.slice (some ⟨wb,0,none⟩) t.keys.length cW) (oy p t) from aZ hWs.out (ay.of (g:=g) hw7) (by omega))
  clear hgw k0 k1 k2 k3 k4 k5 d0 z1 bl hA hbl lz bg pos le ml ltr hS hT hWs hw7
  obtain ⟨z0,z1,z2,z3,z4,z5,zf⟩:=hS7.out.cells
  obtain ⟨t0,t1,t2,t3,t4⟩:=hT7.out.cells
  have kc:=hkc.out w7 hS7.out.grg
  obtain ⟨wl,wc'⟩:=hwc.out w7 hWs7.out
  have bl7:=hS7.out.bl
  have tl7:=hT7.out.lt
  have ltr:=hS7.out.rd.lt
  have kl7:kb<w7.heap.size:=by omega
  have n1:w.heap.size≠g:=by omega
  have n2:rT≠g:=by omega
  have n3:kb≠g:=by omega
  have n4:wb≠g:=by omega
  have n5:w7.heap.size≠g:=by omega
  have hX:=aa (fun (W:World) (hW:Below w7.heap.size w7 W)=>(hpk.out W (hS7.out.rd.below hW ltr)).mono fun e0 w' h=>(.inl ⟨h.1,(hS7.out.grg.trans (ay.of hW)).trans h.2⟩:(e0=Dc (9,plx)∧ay g w w')∨(e0=.returned (.tuple #[zq (Eo 0 0),.int .i64 0])∧Hid False∧ay g w7 w'∧ay g W w')))
  clear hpk z0 z2 z3 z4 z5 zf t0 t2 t3 t4
  go_upto_region 9 with fail
  refine Code.wp_mono (Q:=Dz plx g w) (fun e a W h=>by obtain ⟨h0,c,rfl,h1,h2⟩:=h;exact ⟨h0,h1,h2⟩) ?_
  go_region_held3 (fun w'=>ay g w7 w'∧∀ b o,b<w7.heap.size→b≠g→w'.cell? ⟨b,o,none⟩=w7.cell? ⟨b,o,none⟩) (first|exact lB (ay.of (Hf _ _).drew)|exact lB (ay.of ((Hf _ _).drew.alloc (Hh _) _))|exact hF.out.elim) ((go_at_call 148;refine (hX.out _ (by first|exact (Hf _ _).drew|exact (Hf _ _).drew.alloc (Hh _) _)).mono ?_;rintro e0 w9 (⟨rfl,h9⟩|⟨rfl,hF,hG9,hG9'⟩);exact ⟨rfl,_,rfl,rfl,h9⟩;have kb9:=BG hG9'))
  all_goals exact hF.out.elim
end
section
attribute [local go_sem] run_panic_iface
attribute [local go_sem ↓] cU
attribute [local go_sem ↓] wD
theorem vf (A1 A2 A3 A4 A5 A6 A7 A8 A9 A10 A11 A12:Option Addr) (p:Lp) (c1 c2 c3 c4 c5 c6 c7 c8 c9 c10 c11 c12:Nat) (ASW:Option Addr) (cSW:Nat) (sw:List ByteArray) {g:Nat} {l:List Tk} {mm:Int} (plx:Nat) (SW:Value) (hSWv:SW=.slice ASW sw.length cSW) (w:World) (h:bb w g l #[.slice A1 p.heads.length c1,.slice A2 p.metas.length c2,.slice A3 p.steps.length c3,.slice A4 p.acts.length c4,.slice A5 p.tabs.length c5,.slice A6 p.control.length c6,.slice A7 p.emit.length c7,.slice A8 p.nh.length c8,.slice A9 p.nf.length c9,.slice A10 p.nm.length c10,.slice A11 p.na.length c11,.slice A12 p.nt.length c12,SW]) (hg0:2<g) (hm:w.cell? ⟨2,0,none⟩=some (.int .i64 mm)) (hP:cJ w g A1 A2 A3 A4 A5 A6 A7 A8 A9 A10 A11 A12 p) (hmay:bW p=true) (hSw:Sl 1 bZ w g ASW sw) (hsw:sw.length≤1000) (hk0:(af l).kind≠0) (hn1:rm (af l)=true) (hn2:iH l∈sw) (hDie:∀ W,ay g w W→bb W g (ae l) #[.slice A1 p.heads.length c1,.slice A2 p.metas.length c2,.slice A3 p.steps.length c3,.slice A4 p.acts.length c4,.slice A5 p.tabs.length c5,.slice A6 p.control.length c6,.slice A7 p.emit.length c7,.slice A8 p.nh.length c8,.slice A9 p.nf.length c9,.slice A10 p.nm.length c10,.slice A11 p.na.length c11,.slice A12 p.nt.length c12,SW]→Calls prog 92 #[.pointer (some ⟨g,0,none⟩)] W fun r w'=>r=Dc (9,plx)∧ay g W w'):
  Calls prog 40 #[.pointer (some ⟨g,0,none⟩)] w fun r w'=>r=Dc (9,plx)∧ay g w w':=by
 have lt:=h.lt
 have hNm:=aa (fun (W:World) (hG:ay g w W) (lx:List Tk) (hR:bb W g lx #[.slice A1 p.heads.length c1,.slice A2 p.metas.length c2,.slice A3 p.steps.length c3,.slice A4 p.acts.length c4,.slice A5 p.tabs.length c5,.slice A6 p.control.length c6,.slice A7 p.emit.length c7,.slice A8 p.nh.length c8,.slice A9 p.nf.length c9,.slice A10 p.nm.length c10,.slice A11 p.na.length c11,.slice A12 p.nt.length c12,SW]) (h1:rm (af lx)=true) (h2:iH lx∈sw)=>sJ (cap:=cSW) hR hg0 ((hG.cell (i:=0) (by omega) (by omega)).trans hm) (hSw.grgE av hG lt) h1 h2)
 have hVc:=aa (fun (W:World) (lx:List Tk) (hR:bb W g lx #[.slice A1 p.heads.length c1,.slice A2 p.metas.length c2,.slice A3 p.steps.length c3,.slice A4 p.acts.length c4,.slice A5 p.tabs.length c5,.slice A6 p.control.length c6,.slice A7 p.emit.length c7,.slice A8 p.nh.length c8,.slice A9 p.nf.length c9,.slice A10 p.nm.length c10,.slice A11 p.na.length c11,.slice A12 p.nt.length c12,SW])=>hR.cells13)
 generalize (#[.slice A1 p.heads.length c1,.slice A2 p.metas.length c2,.slice A3 p.steps.length c3,.slice A4 p.acts.length c4,.slice A5 p.tabs.length c5,.slice A6 p.control.length c6,.slice A7 p.emit.length c7,.slice A8 p.nh.length c8,.slice A9 p.nf.length c9,.slice A10 p.nm.length c10,.slice A11 p.na.length c11,.slice A12 p.nt.length c12,SW]:Array Value)=V at*
 subst hSWv
 have hmk:=qa w sw.length (by omega)
 have hO0:=aa (eH.made (W:=w) (B:=w.heap.size) sw.length (Hh _))
 have hba:Below w.heap.size w (w.alloc (.cells (madeCells #[.slice none 0 0] sw.length) 38)):=(Hf _ _).alloc (Hh _) _
 obtain ⟨wa,hwa⟩:∃ wa,w.alloc (.cells (madeCells #[.slice none 0 0] sw.length) 38)=wa:=⟨_,rfl⟩
 rw [hwa] at hmk hO0 hba
 have hR0:=aa (h.below hba lt)
 have hG0:=aa (ay.of (g:=g) hba)
 replace hwa:=aa hwa
 obtain ⟨y0,y1,y2,y3,y4,y5,y6,y7,y8,y9,y10,y11,y12⟩:=hVc.out w l h
 replace hDie:=aa hDie
 clear y0 y1 y2 y3 y4 y5 y6 y7 y8 y9 y10 y11 hm hP hSw h hba
 go_enter func40,ntmps40
 go_wp2
 go_loopw [4,5] (fun _ _ wr=>∃ (o1:List (List aR)) (vs:List Value),Hid (eH wr w.heap.size w.heap.size vs o1)∧Hid (bb wr g l V)∧Hid (ay g w wr)∧Hid (o1.length=sw.length)∧Hid (∀ i,(o1.getD i []).length=0)) (fun _ _ wr=>nN g wr)
 case atStart=>exact ⟨_,_,hO0,hR0,hG0,aa (by simp),aa (fun i=>by rw [HT,List.getElem?_replicate];split<;>rfl)⟩
 case round=>
  clear hO0 hR0 hG0 hmk y12
  obtain ⟨o1,vs,hO,hR,hG,hln,hz0⟩:=hrel
  have hl0:=hR.out.left
  obtain ⟨b',o',cp',hOp⟩:=hR.out.open_
  obtain ⟨ltr,bg,pos,le,ml,d0,df,k0,k1,k2,k3,k4,k5⟩:=hOp
  have hbl:b'<wr.heap.size:=by omega
  have lz:(0:Int)<(l.length:Int):=by omega
  have ek:(((af l).kind:Int) !=0)=true:=by rw [bne_iff_ne];omega
  obtain ⟨i,hi,hil⟩:=tB hn2
  have hNm1:=aa (fun (W:World) (hG1:ay g w W) (hR1:bb W g l V)=>hNm.out W hG1 l hR1 hn1 hn2)
  rw [hi] at hNm1
  have h64:(o1.getD i []).length<64:=by rw [hz0.out i];omega
  have hA:=aa (fun (W:World)=>aY (af l) 5 W)
  clear hn1 hn2 hi hk0
  generalize af l=tq at k0 k1 k2 k3 k4 k5 hA ek
  obtain ⟨kq,sq,wq,mq,pq⟩:=tq
  unfold g8 at hA
  simp only at k0 k1 k2 k3 k4 k5 hA ek
  generalize (⟨sq.toArray⟩:ByteArray)=SQ at k1 hA
  generalize ((mq / 18446744073709551616:Nat):Int)=hiq at k3 hA
  generalize ((mq % 18446744073709551616:Nat):Int)=loq at k4 hA
  obtain ⟨w4,hw4,hb4,hs4,hl4,x0,x1,x2,x3,x4,x5⟩:=bD wr kq wq hiq loq pq SQ
  have hK4:=aa (show fi w4 wr.heap.size kq SQ wq hiq loq pq from by rw [←hw4];exact bU wr _ _ _ _ _ _)
  go_upto_region 4 with fail
  have hO4:=aa (hO.out.grg (ay.of (g:=g) hb4.out) lt)
  have hR4:=aa (hR.out.below hb4.out hR.out.lt)
  have hG4:=aa (hG.out.trans (ay.of (g:=g) hb4.out))
  have hrK:g<wr.heap.size:=ltr
  have hrO:w.heap.size<wr.heap.size:=hO.out.lt
  clear hO hR hG hw4 hb4 hs4 hl4 x0 x1 x2 x3 x4 x5 k0 k1 k2 k3 k4 k5 d0 df hbl lz bg pos le ml ltr
  generalize hrr:wr.heap.size=rK at*
  obtain ⟨y0,y1,y2,y3,y4,y5,y6,y7,y8,y9,y10,y11,y12⟩:=hVc.out _ _ hR4.out
  have ltr:=hR4.out.lt
  clear y0 y1 y2 y3 y4 y5 y6 y7 y8 y9 y10 y11
  go_upto_region 5 with (go_at_call 90;refine (hNm1.out _ hG4.out hR4.out).mono ?_;rintro e0 w5 ⟨rfl,hG5,hR5⟩)
  have hO5:=aa (hO4.out.grg hG5 lt)
  have hK5:=aa (hK4.out.grg hG5 (by omega))
  have hG5':=aa (hG4.out.trans hG5)
  replace hR5:=aa hR5
  clear hO4 hK4 hG4 hR4 hG5 hNm1 y12 ltr
  have hio:i<o1.length:=by rw [hln.out];exact hil
  have hiz:(i:Int)<(sw.length:Int):=by omega
  obtain ⟨A,c,hv,cc,fc⟩:=hO5.out.cell hio
  obtain ⟨n,hn⟩:∃ n,(o1.getD i []).length=n:=⟨_,rfl⟩
  have h1000:(o1.getD i []).length<1000:=by omega
  rw [hn] at hv cc h64
  have hnlen:(n:Int)<64:=by omega
  have dl:decide ((n:Int)<64)=true:=decide_eq_true hnlen
  replace hn:=aa hn
  obtain ⟨x0,x1,x2,x3,x4,x5⟩:=hK5.out.cells
  have xl:=hK5.out.lt
  have ol:=hO5.out.lt
  have hgw:=aE (show Below w5.heap.size w5 w5 from Hf _ _) (Hh _)
  go_wp2_with fail
  refine bV ?_
  repeat (any_goals (first|go_big_quiet_step ((go_at_call 91;with_reducible exact Hi (hA.out _)))|quiet_step ((go_at_call 91;with_reducible exact Hi (hA.out _)))))
  refine wpQuiet_nil ?_
  intro w6 hw6
  replace hw6:=ac hw6
  have hO6:=aa (hO5.out.grg (ay.of (g:=g) hw6) lt)
  have hR6:=aa (hR5.out.below hw6 hR5.out.lt)
  have hG6:=aa (hG5'.out.trans (ay.of (g:=g) hw6))
  have cc6:=(hw6.cell (p:=⟨w.heap.size,i,none⟩) ol).trans cc
  have ol6:=He ol hw6.size
  clear x0 x1 x2 x3 x4 x5 xl hgw hA cc fc ol hO5 hR5 hG5' hK5 hw6
  have hEp:=aa (fun (W:World) (hW:Below w6.heap.size w6 W)=>show Calls prog 92 #[.pointer (some ⟨g,0,none⟩)] W fun r w3=>(r=Dc (9,plx)∧ay g w w3)∨∃ v1 v2 A' c' wB,Hid False∧r=.returned (.agg #[.int .i64 0,v1,.int .i64 0,.int .i64 0,.int .i64 0,v2])∧(eO #[38,38] 38 #[.slice A n c,.slice (some ⟨w3.heap.size,0,none⟩) 1 1]).run prog (w3.alloc (.cells #[.int .i64 0,v1,.int .i64 0,.int .i64 0,.int .i64 0,v2] 57))=.ok (.slice A' (n+1) c') wB∧w3.cell? ⟨w.heap.size,i,none⟩=some (.slice A n c)∧w.heap.size<w3.heap.size∧wB.cell? ⟨w.heap.size,i,none⟩=some (.slice A n c)∧wB.frozen? ⟨w.heap.size,i,none⟩=false∧w.heap.size<wB.heap.size from by
   have hGW:=hG6.out.trans (ay.of hW)
   refine (hDie.out W hGW (hR6.out.below hW hR6.out.lt)).mono ?_
   rintro r w3 ⟨rfl,hG3⟩
   exact .inl ⟨rfl,hGW.trans hG3⟩)
  clear hO6 hR6 hG6 hv
  go_wp2_with fail
  go_region_with (go_at_call 92;refine (hEp.out _ (by exact (Hf _ _).drew)).mono ?_;rintro r w11 (⟨rfl,h11⟩|⟨v1,v2,A',c',wB,hF,rfl,hrun2,y2,yl,z1,zf1,zl⟩);exact ⟨rfl,rfl,h11⟩;skip)
  all_goals exact hF.out.elim
end
section
attribute [local go_sem] run_panic_iface
theorem vg (A1 A2 A3 A4 A5 A6 A7 A8 A9 A10 A11 A12:Option Addr) (p:Lp) (c1 c2 c3 c4 c5 c6 c7 c8 c9 c10 c11 c12:Nat) (ASW:Option Addr) (cSW:Nat) (sw:List ByteArray) (s:ByteArray) (r l1:List Tk) (plx:Nat) (mm:Int) (w:World) (hP:cJ w w.heap.size A1 A2 A3 A4 A5 A6 A7 A8 A9 A10 A11 A12 p) (hmay:bW p=true) (hsw:sw.length≤8) (hSw:Sl 1 bZ w w.heap.size ASW sw) (hs:s.size<4611686018427387904) (hV:iA w) (hml:2<w.heap.size) (hm:w.cell? ⟨2,0,none⟩=some (.int .i64 mm)) (hR:eU s.data.toList=.ok r)
  (hk0:(af r).kind≠0) (hn1:rm (af r)=true) (hn2:iH r∈sw)
  (k:Nat) (hk1:k<p.tabs.length) (ea1:bA [46] (ae r)=true) (ea2:rm (af (ae (ae r)))=true) (ea3:iH (ae (ae r))∈p.nt) (ea4:(k:Int)=aU p.nt (iH (ae (ae r)))) (eb1:bA [58] (ae (ae (ae r)))=true) (eb2:l1=ae (ae (ae (ae r))))
  (hkl:0<p.tabs[k].kinds.length) (hkd:p.tabs[k].kinds[0]=2) (p1:bA [95] l1=false) (p2:(af l1).kind=2) (p3:bA [47] (ae l1)=false) (p4:bA cH (ae l1)=false) (hpl:(af l1).pl=plx) (hxk:plx≤s.size):
  Calls prog 14 #[.agg #[.slice A1 p.heads.length c1,.slice A2 p.metas.length c2,.slice A3 p.steps.length c3,.slice A4 p.acts.length c4,.slice A5 p.tabs.length c5,.slice A6 p.control.length c6,.slice A7 p.emit.length c7,.slice A8 p.nh.length c8,.slice A9 p.nf.length c9,.slice A10 p.nm.length c10,.slice A11 p.na.length c11,.slice A12 p.nt.length c12],.slice ASW sw.length cSW,.string s] w fun e w'=>e=.returned (.tuple #[.slice none 0 0,dg 9 (s.data.toList.take plx)])∧Below w.heap.size w w':=by
 have hmf:∀ (fn:Fn) (first cap:Array Value) (w:World),(Instr.makeFunc fn first cap).run prog w=.ok (.func fn first cap) w:=fun _ _ _ _=>rfl
 obtain ⟨wa,wb,wd,hwa,hwb,hwd,hsa,hsb,hsd,wc,hwc,hL,hB,hY,hsc⟩:=ES w #[.slice A1 p.heads.length c1,.slice A2 p.metas.length c2,.slice A3 p.steps.length c3,.slice A4 p.acts.length c4,.slice A5 p.tabs.length c5,.slice A6 p.control.length c6,.slice A7 p.emit.length c7,.slice A8 p.nh.length c8,.slice A9 p.nf.length c9,.slice A10 p.nm.length c10,.slice A11 p.na.length c11,.slice A12 p.nt.length c12] s
 obtain ⟨y0,y1,y2,y3,y4,y5,y6,y7,y8,y9,y10,y11⟩:=aC hY
 have hPc:=(hP.below hB).more (B':=wc.heap.size) hB.size
 have hM:=jN A1 A2 A3 A4 A5 A6 A7 A8 A9 A10 A11 A12 p c1 c2 c3 c4 c5 c6 c7 c8 c9 c10 c11 c12 wc hPc
 rw [hmay] at hM
 replace hM:=aa hM
 have d8:decide ((8:Int)<(sw.length:Int))=false:=decide_eq_false (by omega)
 have d8':decide (8<sw.length)=false:=decide_eq_false (by omega)
 have lp0:w.heap.size<wc.heap.size:=by omega
 have lt:=hL.lt
 have hLx:=aa (fun (W:World) (hW:Below wc.heap.size wc W)=>show Calls prog 38 #[.string s] W fun e w'=>(∃ A cap,e=.returned (.tuple #[.slice A r.length cap,.agg #[.int .i64 0,.int .i64 0,.int .i64 0]])∧Sl 6 zr w' w'.heap.size A r∧r.length≤cap∧cap≤maxLen)∧Below W.heap.size W w' from by
  have h:=n9 s W hs ((hV.below hB (Hh _)).below hW (by omega))
  unfold oQ at h
  rw [hR] at h
  exact h)
 have hEn:=aa (lE hR)
 have eg:=jR
 have hm0:=aa ((hB.cell (p:=⟨2,0,none⟩) hml).trans hm)
 have hB':=aa hB
 have hYc:=aa hY
 replace hB:=aa hB
 replace hsc:=aa hsc
 replace hL:=aa hL
 obtain ⟨-,c0,z0,e0,e1,e2,f0,g0,g1,g2⟩:=hL.out
 go_enter_defers func14,ntmps14
 go_upto_region 3 with (go_at_call 18;refine hM.out.mono ?_;rintro e w2 ⟨rfl,hb2⟩;have kb:=hL.out.below hb2 lt;obtain ⟨lt2,yc0,yz0,ye0,ye1,ye2,yf0,yg0,yg1,yg2⟩:=kb)
 clear y0 y1 y2 y3 y4 y5 y6 y7 y8 y9 y10 y11
 go_upto_region 6 with (go_at_call 38;refine (hLx.out _ hb2).mono ?_;rintro e w3 ⟨⟨A,cap,rfl,hSl,hc1,hc2⟩,hb3⟩;have kb:=(hL.out.below hb2 lt).below hb3 lt2;obtain ⟨lt3,xc0,xz0,xe0,xe1,xe2,xf0,xg0,xg1,xg2⟩:=kb)
 have hL3:=aa ((hL.out.below hb2 lt).below hb3 lt2)
 have hb23:=hb2.trans (hb3.mono hb2.size)
 have hB4:=aa (show Below w.heap.size w (((w3.setCell ⟨w.heap.size+3,0,none⟩ (.int .i64 0)).setCell ⟨w.heap.size+3,1,none⟩ (.int .i64 0)).setCell ⟨w.heap.size+3,2,none⟩ (.int .i64 0)) from dW (hB.out.trans (hb23.mono hB.out.size)) (by omega) _ _ _)
 have hL4:=aa hL3.out.setF
 have hS4:=aa (show Sl 6 zr (((w3.setCell ⟨w.heap.size+3,0,none⟩ (.int .i64 0)).setCell ⟨w.heap.size+3,1,none⟩ (.int .i64 0)).setCell ⟨w.heap.size+3,2,none⟩ (.int .i64 0)) w3.heap.size A r from hSl.keep gY fun q _=>hL3.out.same q)
 have hY4:=aa (fun i=>(hL3.out.same ⟨w.heap.size,i,none⟩).trans ((hb23.cell (p:=⟨w.heap.size,i,none⟩) lp0).trans (hYc.out i)))
 have hP4:=aa (show cJ (((w3.setCell ⟨w.heap.size+3,0,none⟩ (.int .i64 0)).setCell ⟨w.heap.size+3,1,none⟩ (.int .i64 0)).setCell ⟨w.heap.size+3,2,none⟩ (.int .i64 0)) w.heap.size A1 A2 A3 A4 A5 A6 A7 A8 A9 A10 A11 A12 p from hP.keep fun a ha=>(hL3.out.same a).trans ((hb23.cell (HB ha lp0)).trans (hB.out.cell ha)))
 have hW4:=aa (show Sl 1 bZ (((w3.setCell ⟨w.heap.size+3,0,none⟩ (.int .i64 0)).setCell ⟨w.heap.size+3,1,none⟩ (.int .i64 0)).setCell ⟨w.heap.size+3,2,none⟩ (.int .i64 0)) w.heap.size ASW sw from hSw.keep av fun a ha=>(hL3.out.same a).trans ((hb23.cell (HB ha lp0)).trans (hB.out.cell ha)))
 have hm4:=aa ((hL3.out.same ⟨2,0,none⟩).trans ((hb23.cell (p:=⟨2,0,none⟩) (by show 2<wc.heap.size;omega)).trans hm0.out))
 have hz4:(((w3.setCell ⟨w.heap.size+3,0,none⟩ (.int .i64 0)).setCell ⟨w.heap.size+3,1,none⟩ (.int .i64 0)).setCell ⟨w.heap.size+3,2,none⟩ (.int .i64 0)).heap.size=w3.heap.size:=by rw [an,an,an]
 generalize (((w3.setCell ⟨w.heap.size+3,0,none⟩ (.int .i64 0)).setCell ⟨w.heap.size+3,1,none⟩ (.int .i64 0)).setCell ⟨w.heap.size+3,2,none⟩ (.int .i64 0))=w4 at hB4 hL4 hS4 hY4 hP4 hW4 hm4 hz4 ⊢
 clear yc0 yz0 ye0 ye1 ye2 yf0 yg0 yg1 yg2 xc0 xz0 xe0 xe1 xe2 xf0 xg0 xg1 xg2 hLx hL hL3 hB hSl hb2 hb3 hb23 hM c0 z0 e0 e1 e2 f0 g0 g1 g2 lt2 lt3 hwa hwb hwd hsa hsb hsd hwc
 obtain ⟨y0,y1,y2,y3,y4,y5,y6,y7,y8,y9,y10,y11⟩:=aC hY4.out
 obtain ⟨lt4,c0,z0,e0,e1,e2,f0,g0,g1,g2⟩:=hL4.out
 obtain ⟨w5,hw5,hs5,hb5,-,-⟩:=ak w4 #[.slice A1 p.heads.length c1,.slice A2 p.metas.length c2,.slice A3 p.steps.length c3,.slice A4 p.acts.length c4,.slice A5 p.tabs.length c5,.slice A6 p.control.length c6,.slice A7 p.emit.length c7,.slice A8 p.nh.length c8,.slice A9 p.nf.length c9,.slice A10 p.nm.length c10,.slice A11 p.na.length c11,.slice A12 p.nt.length c12,.slice ASW sw.length cSW,.slice A r.length cap] 94
 have lw4:w.heap.size<w4.heap.size:=by omega
 have hRd:=aa (show bb w5.drew w4.heap.size r #[.slice A1 p.heads.length c1,.slice A2 p.metas.length c2,.slice A3 p.steps.length c3,.slice A4 p.acts.length c4,.slice A5 p.tabs.length c5,.slice A6 p.control.length c6,.slice A7 p.emit.length c7,.slice A8 p.nh.length c8,.slice A9 p.nf.length c9,.slice A10 p.nm.length c10,.slice A11 p.na.length c11,.slice A12 p.nt.length c12,.slice ASW sw.length cSW] from by
  refine ⟨hEn.out,rfl,A,cap,hc1,hc2,?_,?_⟩
  ·show w5.heap[w4.heap.size]? =_
   rw [←hw5]
   exact heap_alloc_new w4 _
  ·have h:=hS4.out.more (B':=w4.heap.size) gY (by omega)
   exact h.keep gY fun q hq=>hb5.cell hq)
 have hP5:=aa (show cJ w5.drew w4.heap.size A1 A2 A3 A4 A5 A6 A7 A8 A9 A10 A11 A12 p from (hP4.out.keep (w':=w5.drew) fun a ha=>hb5.cell (HB ha lw4)).more (Hs lw4))
 have hl5w:w4.heap.size<w5.heap.size:=by omega
 have hW5:=aa (show Sl 1 bZ w5.drew w4.heap.size ASW sw from (hW4.out.keep (w':=w5.drew) av fun a ha=>hb5.cell (HB ha lw4)).more av (Hs lw4))
 have hm5:=aa (show w5.drew.cell? ⟨2,0,none⟩=some (.int .i64 mm) from (hb5.cell (p:=⟨2,0,none⟩) (by show 2<w4.heap.size;omega)).trans hm4.out)
 have hL5:=aa (hL4.out.below hb5 lt4)
 have hB5:=aa (hB4.out.trans (hb5.mono hB4.out.size))
 have hb5':=aa hb5
 have hPt:=hP5.out
 have hgm:2<w4.heap.size:=by omega
 have hAll:=aa (vf A1 A2 A3 A4 A5 A6 A7 A8 A9 A10 A11 A12 p c1 c2 c3 c4 c5 c6 c7 c8 c9 c10 c11 c12 ASW cSW sw (g:=w4.heap.size) (l:=r) plx _ rfl w5.drew hRd.out hgm hm5.out hP5.out hmay hW5.out (by omega) hk0 hn1 hn2 (fun W hG hR=>by
  have hE:=re A1 A2 A3 A4 A5 A6 A7 A8 A9 A10 A11 A12 p c1 c2 c3 c4 c5 c6 c7 c8 c9 c10 c11 c12 _ W hR hgm ((hG.cell (k:=2) (i:=0) (by show 2<w5.heap.size;omega) (by show 2≠w4.heap.size;omega)).trans hm5.out) (hPt.grgE A1 A2 A3 A4 A5 A6 A7 A8 A9 A10 A11 A12 p c1 c2 c3 c4 c5 c6 c7 c8 c9 c10 c11 c12 hG hRd.out.lt) hmay k hk1 ea1 ea2 ea3 ea4 eb1 eb2 hkl hkd p1 p2 p3 p4
  rw [hpl] at hE
  exact hE))
 clear hRd hP5 hPt hW5 hm5 hm4 hP4 hW4 hS4 hY4 hEn hP hPc hSw hV hm hmay hR hYc hm0 hY hk0 hn1 hn2 hk1 ea1 ea2 ea3 ea4 eb1 eb2 hkl hkd p1 p2 p3 p4 hpl
 replace hz4:=aa hz4
 obtain ⟨lt5,d0,u0,v0,v1,v2,h0,i0,i1,i2⟩:=hL5.out
 replace hs5:=aa hs5
 clear c0 z0 e0 e1 e2 f0 g0 g1 g2 hb5
 go_upto_region 9 with fail
 refine wp_region_any (by kernel_rfl) ?_
 change wpAny _ _ _ _ _ _ _ (World.drew _)
 refine wpAny_ready (rs:= [0,2]) (by kernel_rfl) (by simp) ?_
 refine AllReady.cons rfl (fun K hK=> ?_) (AllReady.cons rfl (fun K hK=> ?_) AllReady.nil)
 ·go_simp
  refine hK _ _ ?_
  clear hK K
  refine wpAny_ready (rs:= [1,2]) (by kernel_rfl) (by simp) ?_
  refine AllReady.cons rfl (fun K hK=> ?_) (AllReady.cons rfl (fun K hK=> ?_) AllReady.nil)
  ·go_simp
   go_at_fn 40
   refine hAll.out.mono ?_
   rintro e w6 ⟨rfl,hG6⟩
   have hb6:=aa (show Below w4.heap.size w5 w6 from (Hf _ _).drew.trans (hG6.below (Hh _) (by show w4.heap.size≤w5.heap.size;have:=hs5.out;omega)))
   have hL6:=aa (hL5.out.below hb6.out (by have:=hz4.out;omega))
   go_wp2
   refine leaves_cons (f:=39) (args:=#[.pointer (some ⟨w.heap.size+1,0,none⟩),.pointer (some ⟨w.heap.size+2,0,none⟩),.pointer (some ⟨w.heap.size+3,0,none⟩)]) (by simp) (by simp [go_sem]) ?_
   refine (ia w.heap.size plx s 9 [] _ hL6.out hxk hs (by decide)).mono ?_
   rintro e u' w'' ⟨rfl,rfl,w9,hb9,rfl⟩
   have hL9:=hL6.out.below hb9 hL6.out.lt
   obtain ⟨lt9,q0,q1,q2,q3,q4,q5,q6,q7,q8⟩:=hL9
   have hz6:=hb6.out.size
   have hq:=aa (hB5.out.trans ((hb6.out.trans (hb9.mono (by have:=hs5.out;omega))).mono (by have:=hB4.out.size;omega)))
   simp only [Leaves,settle]
   simp [Leaves,settle,results,results14,go_sem,q0,q1,q2,q3,q4,dg]
   exact tE hq.out _ _ _ _
  ·go_simp
   refine hK _ _ ?_
   clear hK K
   refine wpAny_ready (rs:= [1]) (by kernel_rfl) (by simp) ?_
   refine AllReady.cons rfl (fun K hK=> ?_) AllReady.nil
   go_simp
   go_at_fn 40
   refine hAll.out.mono ?_
   rintro e w6 ⟨rfl,hG6⟩
   have hb6:=aa (show Below w4.heap.size w5 w6 from (Hf _ _).drew.trans (hG6.below (Hh _) (by show w4.heap.size≤w5.heap.size;have:=hs5.out;omega)))
   have hL6:=aa (hL5.out.below hb6.out (by have:=hz4.out;omega))
   go_wp2
   refine leaves_cons (f:=39) (args:=#[.pointer (some ⟨w.heap.size+1,0,none⟩),.pointer (some ⟨w.heap.size+2,0,none⟩),.pointer (some ⟨w.heap.size+3,0,none⟩)]) (by simp) (by simp [go_sem]) ?_
   refine (ia w.heap.size plx s 9 [] _ hL6.out hxk hs (by decide)).mono ?_
   rintro e u' w'' ⟨rfl,rfl,w9,hb9,rfl⟩
   have hL9:=hL6.out.below hb9 hL6.out.lt
   obtain ⟨lt9,q0,q1,q2,q3,q4,q5,q6,q7,q8⟩:=hL9
   have hz6:=hb6.out.size
   have hq:=aa (hB5.out.trans ((hb6.out.trans (hb9.mono (by have:=hs5.out;omega))).mono (by have:=hB4.out.size;omega)))
   simp only [Leaves,settle]
   simp [Leaves,settle,results,results14,go_sem,q0,q1,q2,q3,q4,dg]
   exact tE hq.out _ _ _ _
 ·go_simp
  refine hK _ _ ?_
  clear hK K
  refine wpAny_ready (rs:= [0]) (by kernel_rfl) (by simp) ?_
  refine AllReady.cons rfl (fun K hK=> ?_) AllReady.nil
  go_simp
  refine hK _ _ ?_
  clear hK K
  refine wpAny_ready (rs:= [1]) (by kernel_rfl) (by simp) ?_
  refine AllReady.cons rfl (fun K hK=> ?_) AllReady.nil
  go_simp
  go_at_fn 40
  refine hAll.out.mono ?_
  rintro e w6 ⟨rfl,hG6⟩
  have hb6:=aa (show Below w4.heap.size w5 w6 from (Hf _ _).drew.trans (hG6.below (Hh _) (by show w4.heap.size≤w5.heap.size;have:=hs5.out;omega)))
  have hL6:=aa (hL5.out.below hb6.out (by have:=hz4.out;omega))
  go_wp2
  refine leaves_cons (f:=39) (args:=#[.pointer (some ⟨w.heap.size+1,0,none⟩),.pointer (some ⟨w.heap.size+2,0,none⟩),.pointer (some ⟨w.heap.size+3,0,none⟩)]) (by simp) (by simp [go_sem]) ?_
  refine (ia w.heap.size plx s 9 [] _ hL6.out hxk hs (by decide)).mono ?_
  rintro e u' w'' ⟨rfl,rfl,w9,hb9,rfl⟩
  have hL9:=hL6.out.below hb9 hL6.out.lt
  obtain ⟨lt9,q0,q1,q2,q3,q4,q5,q6,q7,q8⟩:=hL9
  have hz6:=hb6.out.size
  have hq:=aa (hB5.out.trans ((hb6.out.trans (hb9.mono (by have:=hs5.out;omega))).mono (by have:=hB4.out.size;omega)))
  simp only [Leaves,settle]
  simp [Leaves,settle,results,results14,go_sem,q0,q1,q2,q3,q4,dg]
  exact tE hq.out _ _ _ _
end
end Go.Proofs.YtiebolhmdhdagaaGreatDoor

import Derived.Test.YtbbdhknagofghaaGreatTcp29
set_option linter.all false
set_option maxHeartbeats 4000000
set_option maxRecDepth 100000
open Go.Proofs.Tryz
namespace Go.Proofs.YtbbdhknagofghaaGreat
open _root_.Nat renaming lt_of_lt_of_le→Bg, le_refl→Bm, zero_le→Bo, add_sub_cancel_left→B7
open _root_.Go.RowKit.Below renaming refl→Bi
open _root_.List renaming getElem?_eq_getElem→Bk, getElem?_eq_some_iff→Bp, length_append→Bq, getElem_mem→Bv, length_cons→By, cons_append→BC, nil_append→BH, append_assoc→BK, getElem?_append_right→BN, getElem?_cons_succ→BP, getElem?_append_left→BU, length_nil→BV, getElem?_toArray→B5, getElem?_cons_zero→B6
open _root_.Array renaming getElem?_eq_some_iff→Bs
open Go.RowKit
section
attribute [local go_sem] Oper.semAt_some
def pU (l B B0:Nat) (w0:World) (xs:List It) (g:Nat→Bool) (J S:Nat→World→Prop) (L:List St):Prop:=
 ∀ (a:Int) (A:Option Addr) (cap:Nat) (W:World) (j:Nat),Sl 14 dR w0 B A L→B0≤W.heap.size→(∀ (i:Nat) (x:It),(am a L)[i]? =some x→xs[j+i]? =some x)→J j W→
  Calls prog 77 #[.int .i64 a,.slice A L.length cap,.func (.yield l) #[] #[]] W (eJ xs.length g J S W j (am a L).length)
def ye (l B B0:Nat) (w0:World) (xs:List It) (g:Nat→Bool) (J S:Nat→World→Prop):St→Prop
 | .mk _ _ _ _ thn els=>pU l B B0 w0 xs g J S thn∧pU l B B0 w0 xs g J S els
theorem nb {l B B0:Nat} {w0:World} {xs:List It} {g:Nat→Bool} {J S:Nat→World→Prop} (hY:Yl l B xs g J S) (hown:OwnFrom B0 J) (hJK:∀ k W,J k W→Below B w0 W) (hB0:B≤B0)
  (L:List St) (ih:∀ x∈L,ye l B B0 w0 xs g J S x):pU l B B0 w0 xs g J S L:=by
 intro a A cap W j hS hW0 hx hJ
 have hl:=hS.len
 refine (callsIn_wide (n:=3)).1 (callsIn_of_wp_marks func77 rfl trivial ?_)
 simp only [ntmps77,List.size_toArray,By,BV,Nat.reduceAdd,Nat.reduceSub,Array.replicate_succ,Array.replicate_zero,List.push_toArray,List.append_toArray,BH,BC]
 replace ih:=aa ih
 replace hS:=aa hS
 replace hx:=aa hx
 replace hJK:=aa hJK
 gi_wp2
 refine wpIn_loop (fun a1 W'=>∃ (k:Nat) (u8 u12 u13 u14 u15 u16 u17 u18 u19 u20 u21 u22 u23 u24 u25 u26 u27 u28 u29 u30 u31 u32 u33 u34 u35 u36 u37:Value),k≤L.length∧bK g j (am a (L.take k)).length=true∧J (j+(am a (L.take k)).length) W'∧Kp lv W W'∧
   a1= { tmps:=#[.int .i64 a,.slice A L.length cap,.func (.yield l) #[] #[],undef,undef,undef,.bool false,undef,u8,.slice A L.length cap,.int .i64 (L.length:Int),.int .i64 (k:Int),u12,u13,u14,u15,u16,u17,u18,u19,u20,u21,u22,u23,u24,u25,u26,u27,u28,u29,u30,u31,u32,u33,u34,u35,u36,u37],defers:= []})
   (kA 11 L.length) ⟨0,undef,undef,undef,undef,undef,undef,undef,undef,undef,undef,undef,undef,undef,undef,undef,undef,undef,undef,undef,undef,undef,undef,undef,undef,undef,undef,undef,Bo _,by simp [am,iw],by simpa [am] using hJ,Kp.refl _ _,rfl⟩ ?_
 rintro a1 W' ⟨k,u8,u12,u13,u14,u15,u16,u17,u18,u19,u20,u21,u22,u23,u24,u25,u26,u27,u28,u29,u30,u31,u32,u33,u34,u35,u36,u37,hk,hrun,hJ',hkp,rfl⟩
 by_cases hlt:k<L.length
 ·have hlt1:(k:Int)<(L.length:Int):=by omega
  have hbW:=hJK.out _ _ hJ'
  obtain ⟨b,o,ecs,hA,hb,hel,hcell,hr⟩:=(hS.out.below be hbW).2 k _ (Bk hlt)
  subst hA
  have hin:=ih.out _ (Bv hlt)
  have hia:=xR a hlt
  have hit:=tt a hlt
  have hr':=hr
  generalize L[k]=x at hr hr' hin hia hit
  obtain ⟨kind,head,name,e,thn,els⟩:=x
  obtain ⟨es,A1,c1,A2,c2,rfl,h0,h1,h2,he,hT,hE⟩:=RS.inv hr
  obtain ⟨op,lit,ehead,ename,hi,lo,args⟩:=e
  obtain ⟨Ae,ecap,rfl,-,-,-,-,-,-,hs⟩:=RE.inv he
  have l1:=hT.len
  have l2:=hE.len
  have l3:=hs.len
  obtain ⟨x0,x1,x2,x3,x4,x5,x6,x7,x8,x9,x10,x11,x12,x13⟩:=su hcell
  obtain ⟨W1,hW1⟩:∃ W1,W'.alloc (.cells #[.int .u8 kind,.string head,.string name,.int .u8 op,.int .i64 lit.1,.int .u64 lit.2.1,.int .u64 lit.2.2,.string ehead,.string ename,.int .i64 hi,.int .i64 lo,.slice Ae args.length ecap,.slice A1 thn.length c1,.slice A2 els.length c2] 47)=W1:=⟨_,rfl⟩
  have hb1:Below W'.heap.size W' W1:=by rw [←hW1];exact (Bi _ _).alloc (Bm _) _
  have hbox:W1.heap[W'.heap.size]? =some (.cells #[.int .u8 kind,.string head,.string name,.int .u8 op,.int .i64 lit.1,.int .u64 lit.2.1,.int .u64 lit.2.2,.string ehead,.string ename,.int .i64 hi,.int .i64 lo,.slice Ae args.length ecap,.slice A1 thn.length c1,.slice A2 els.length c2] 47):=by rw [←hW1];exact World.alloc_heap_new W' _
  have hc1:=au hbox
  obtain ⟨v0,v1,v2,v3,v4,v5,v6,v7,v8,v9,v10,v11,v12,v13⟩:=dm hc1
  have hBW:B≤W'.heap.size:=by have:=hkp.size;omega
  have hJ1:=cY hown hJ' hb1
  have hk1:=hkp.trans (Kp.of_below lv hb1)
  have hitm:AG B ⟨10,a,0,.mk kind head name (.mk op lit ehead ename hi lo args) thn els⟩ (.agg #[.int .u8 10,.int .i64 a,.int .i64 0,.int .u8 kind,.string head,.string name,.int .u8 op,.int .i64 lit.1,.int .u64 lit.2.1,.int .u64 lit.2.2,.string ehead,.string ename,.int .i64 hi,.int .i64 lo,.slice Ae args.length ecap,.slice A1 thn.length c1,.slice A2 els.length c2]) W1:=
   ⟨_,rfl,_,rfl,be.keep hr' fun q hq=>hb1.cell (Bg hq hBW)⟩
  have hget:xs[j+(am a (L.take k)).length]? =some ⟨10,a,0,.mk kind head name (.mk op lit ehead ename hi lo args) thn els⟩:=hx.out _ _ (by
   rw [hia,BN (Bm _),Nat.sub_self];rfl)
  obtain ⟨mm,fn,tmps,assign,body,hy,hR⟩:=hY _ _ _ W1 hget hJ1 hitm
  have hg1:∀ (i:Nat) (x:It),(am a thn)[i]? =some x→xs[j+(am a (L.take k)).length+1+i]? =some x:=fun i x hx1=>by
   have:=hx.out ((am a (L.take k)).length+(1+i)) x (by
    rw [hia,BN (by omega),B7,cO,Nat.add_comm 1 i,BC,BP,BK,BU (Bp.1 hx1).1]
    exact hx1)
   rw [←this];congr 1;omega
  have hg2:∀ (i:Nat) (x:It),(am a els)[i]? =some x→xs[j+(am a (L.take k)).length+1+(am a thn).length+i]? =some x:=fun i x hx1=>by
   have:=hx.out ((am a (L.take k)).length+(1+((am a thn).length+i))) x (by
    rw [hia,BN (by omega),B7,cO,Nat.add_comm 1 _,BC,BP,BK,BN (by omega),B7,BU (Bp.1 hx1).1]
    exact hx1)
   rw [←this];congr 1;omega
  have hlen:j+(am a (L.take (k+1))).length=j+(am a (L.take k)).length+1+(am a thn).length+(am a els).length:=by
   rw [hit,cO,By,Bq];omega
  have hjk:=aa ((Bp.1 hget).1)
  have hsuc:=aa (show bK g j (am a (L.take (k+1))).length=(bK g j (am a (L.take k)).length&&(g (j+(am a (L.take k)).length)&&(bK g (j+(am a (L.take k)).length+1) (am a thn).length&&bK g (j+(am a (L.take k)).length+1+(am a thn).length) (am a els).length))) from by
   rw [hit,cO,By,Bq,Nat.add_comm _ 1,cW,cW,jL,cW])
  have hle:=aa (nL a L (k+1))
  have hrun':=aa hrun
  have hW1s:W'.heap.size<W1.heap.size:=(Bs.1 hbox).1
  have hT0:Sl 14 dR w0 B A1 thn:=hT.keep be fun q hq=>(hbW.cell hq).symm
  have hE0:Sl 14 dR w0 B A2 els:=hE.keep be fun q hq=>(hbW.cell hq).symm
  have hin1:=aa (hin.1 a A1 c1)
  have hin2:=aa (hin.2 a A2 c2)
  replace hit:=aa hit
  replace hlen:=aa hlen
  replace hg1:=aa hg1
  replace hg2:=aa hg2
  replace hbox:=aa hbox
  replace hT0:=aa hT0
  replace hE0:=aa hE0
  clear hia hget hitm hcell hr hr' hT hE hs he hc1 hb1 hJ' hJ hin hbW hel h0 h1 h2 hrun
  gi_wp2
  refine (eC hR).mono ?_
  rintro e W3 ⟨rfl,h1,h2⟩
  cases hc:g (j+(am a (L.take k)).length) with
  |false=>
   have hS3:=aa (h2 hc)
   have hrN:=aa (show bK g j (am a L).length=false from dZ (by rw [hsuc.out,hc];simp) hle.out)
   clear h1 h2 hc
   gi_wp2_with (refine ⟨(fun _ _=>trivial),?_⟩)
   all_goals exact ⟨_,results_tmp rfl _ _ _,dK hrN.out ⟨_,hjk.out,hS3.out⟩⟩
  |true=>
   obtain ⟨hJ3,hk3⟩:=h1 hc
   have hbox3:W3.heap[W'.heap.size]? =some (.cells #[.int .u8 kind,.string head,.string name,.int .u8 op,.int .i64 lit.1,.int .u64 lit.2.1,.int .u64 lit.2.2,.string ehead,.string ename,.int .i64 hi,.int .i64 lo,.slice Ae args.length ecap,.slice A1 thn.length c1,.slice A2 els.length c2] 47):=hk3.same _ _ hbox.out (fun cs t fr e=>by cases e;rfl)
   have hc3:=au hbox3
   have r12:W3.cell? ⟨W'.heap.size,12,none⟩=some (.slice A1 thn.length c1):=hc3 12
   have r13:W3.cell? ⟨W'.heap.size,13,none⟩=some (.slice A2 els.length c2):=hc3 13
   have hz3:W'.heap.size<W3.heap.size:=(Bs.1 hbox3).1
   have hkN:=aa (hk1.trans hk3)
   have hcall:=aa (hin1.out W3 _ hT0.out (by have:=hkN.out.size;omega) hg1.out hJ3)
   replace hbox3:=aa hbox3
   replace hc:=aa hc
   clear h1 h2 hJ3 hk3 hc3
   gi_wp2_with fail
   refine ⟨trivial,?_⟩
   refine (callsIn_wide.2 hcall.out).mono ?_
   rintro e W4 ⟨rfl,h1,h2⟩
   cases hd:bK g (j+(am a (L.take k)).length+1) (am a thn).length with
   |false=>
    have hS4:=aa (h2 hd)
    have hrN:=aa (show bK g j (am a L).length=false from dZ (by rw [hsuc.out,hd];simp) hle.out)
    clear h1 h2 hd
    gi_wp2_with (refine ⟨(fun _ _=>trivial),?_⟩)
    all_goals exact ⟨_,results_tmp rfl _ _ _,dK hrN.out hS4.out⟩
   |true=>
    obtain ⟨hJ4,hk4⟩:=h1 hd
    have hbox4:W4.heap[W'.heap.size]? =some (.cells #[.int .u8 kind,.string head,.string name,.int .u8 op,.int .i64 lit.1,.int .u64 lit.2.1,.int .u64 lit.2.2,.string ehead,.string ename,.int .i64 hi,.int .i64 lo,.slice Ae args.length ecap,.slice A1 thn.length c1,.slice A2 els.length c2] 47):=hk4.same _ _ hbox3.out (fun cs t fr e=>by cases e;rfl)
    have hc4:=au hbox4
    have q12:W4.cell? ⟨W'.heap.size,12,none⟩=some (.slice A1 thn.length c1):=hc4 12
    have q13:W4.cell? ⟨W'.heap.size,13,none⟩=some (.slice A2 els.length c2):=hc4 13
    have hz4:W'.heap.size<W4.heap.size:=(Bs.1 hbox4).1
    have hkM:=aa (hkN.out.trans hk4)
    have hcall2:=aa (hin2.out W4 _ hE0.out (by have:=hkM.out.size;omega) hg2.out hJ4)
    replace hd:=aa hd
    clear h1 h2 hJ4 hk4 hc4 hbox4 hcall
    gi_wp2_with fail
    refine ⟨trivial,?_⟩
    refine (callsIn_wide.2 hcall2.out).mono ?_
    rintro e W5 ⟨rfl,h1,h2⟩
    cases hf:bK g (j+(am a (L.take k)).length+1+(am a thn).length) (am a els).length with
    |false=>
     have hS5:=aa (h2 hf)
     have hrN:=aa (show bK g j (am a L).length=false from dZ (by rw [hsuc.out,hf];simp) hle.out)
     clear h1 h2 hf
     gi_wp2
     exact ⟨_,results_tmp rfl _ _ _,dK hrN.out hS5.out⟩
    |true=>
     obtain ⟨hJ5,hk5⟩:=h1 hf
     have hJN:=aa (show J (j+(am a (L.take (k+1))).length) W5 from by rw [hlen.out];exact hJ5)
     have hkP:=aa (hkM.out.trans hk5)
     have hrN:=aa (show bK g j (am a (L.take (k+1))).length=true from by rw [hsuc.out,hrun'.out,hc.out,hd.out,hf];rfl)
     clear h1 h2 hJ5 hk5 hf
     gi_wp2
     refine ⟨⟨k+1,_,_,_,_,_,_,_,_,_,_,_,_,_,_,_,_,_,_,_,_,_,_,_,_,_,_,_,by omega,hrN.out,hJN.out,hkP.out,rfl⟩,?_⟩
     simp only [kA,B5,BP,B6]
     omega
 ·have hlt1:¬(k:Int)<(L.length:Int):=by omega
  have hke:k=L.length:=by omega
  subst hke
  have hJN:=aa hJ'
  have hkN:=aa hkp
  have hrN:=aa hrun
  rw [List.take_length] at hJN hrN
  clear hJ' hkp hJ hrun
  gi_wp2
  exact ⟨_,results_tmp rfl _ _ _,fK hrN.out hJN.out hkN.out⟩
theorem yf {l B B0:Nat} {w0:World} {xs:List It} {g:Nat→Bool} {J S:Nat→World→Prop} (hY:Yl l B xs g J S) (hown:OwnFrom B0 J) (hJK:∀ k W,J k W→Below B w0 W) (hB0:B≤B0) (s:St):ye l B B0 w0 xs g J S s:=by
 induction s using St.ind with
 |h kind head name e thn els ih1 ih2=>exact ⟨nb hY hown hJK hB0 thn ih1,nb hY hown hJK hB0 els ih2⟩
theorem lA {l B B0:Nat} {w0:World} {xs:List It} {g:Nat→Bool} {J S:Nat→World→Prop} (hY:Yl l B xs g J S) (hown:OwnFrom B0 J) (hJK:∀ k W,J k W→Below B w0 W) (hB0:B≤B0) (L:List St):pU l B B0 w0 xs g J S L:=
 nb hY hown hJK hB0 L fun x _=>yf hY hown hJK hB0 x
end
theorem nc {n j:Nat} {g:Nat→Bool} {J S:Nat→World→Prop} (i:Int) (W:World) (hJ:J j W):Calls prog 71 #[.int .i64 i] W (eJ n g J S W j 0):=by
 have hJ':=aa hJ
 clear hJ
 go_enter func71,ntmps71
 go_wp2
 go_ret
 exact fK (iw _ _) hJ'.out (Kp.refl _ _)
theorem lB:∀ args w,(callFunc 71 args).run prog w=.ok (.enter 71 args) w:=enters_of func71 (by kernel_rfl) rfl
theorem rI:∀ args w,(callFunc 73 args).run prog w=.ok (.enter 73 args) w:=enters_of func73 (by kernel_rfl) rfl
theorem rJ:∀ args w,(callFunc 75 args).run prog w=.ok (.enter 75 args) w:=enters_of func75 (by kernel_rfl) rfl
theorem rK:∀ args w,(callFunc 76 args).run prog w=.ok (.enter 76 args) w:=enters_of func76 (by kernel_rfl) rfl
theorem rL:∀ args w,(callFunc 78 args).run prog w=.ok (.enter 78 args) w:=enters_of func78 (by kernel_rfl) rfl
structure eZ (A1 A2 A3 A4 A5 A6 A7:Option Addr) (p:Pg) (c1 c2 c3 c4 c5 c6 c7:Nat) (l bp bo:Nat) (W:World):Prop where
 prog:W.heap[bp]? =some (.cells #[.slice A1 p.headers.length c1,.slice A2 p.metas.length c2,.slice A3 p.states.length c3,.slice A4 p.actions.length c4,.slice A5 p.tables.length c5,.slice A6 p.control.length c6,.slice A7 p.emit.length c7] 30)
 yield:W.heap[bo]? =some (.cells #[.func (.yield l) #[] #[]] 131)
theorem eZ.kp {A1 A2 A3 A4 A5 A6 A7:Option Addr} {p:Pg} {c1 c2 c3 c4 c5 c6 c7:Nat} {l bp bo:Nat} {W W':World} (h:eZ A1 A2 A3 A4 A5 A6 A7 p c1 c2 c3 c4 c5 c6 c7 l bp bo W) (hk:Kp lv W W'):eZ A1 A2 A3 A4 A5 A6 A7 p c1 c2 c3 c4 c5 c6 c7 l bp bo W':=
 ⟨hk.same _ _ h.prog (fun cs t fr e=>by cases e;rfl),hk.same _ _ h.yield (fun cs t fr e=>by cases e;rfl)⟩
theorem rM {l B B0:Nat} {w0:World} {xs:List It} {g:Nat→Bool} {J S:Nat→World→Prop} (hY:Yl l B xs g J S) (hown:OwnFrom B0 J) (hJK:∀ k W,J k W→Below B w0 W) (A1 A2 A3 A4 A5 A6 A7:Option Addr) (p:Pg) (c1 c2 c3 c4 c5 c6 c7:Nat) (hP:bu w0 B A1 A2 A3 A4 A5 A6 A7 p) (bp bo i j:Nat) (f:Hd) (hi:p.headers[i]? =some f)
  (W:World) (hB0:B0≤W.heap.size) (hh:eZ A1 A2 A3 A4 A5 A6 A7 p c1 c2 c3 c4 c5 c6 c7 l bp bo W) (hx:∀ k:Nat,k<f.fields.length→xs[j+k]? =some ⟨2,(i:Int),(k:Int),de⟩) (hJ:J j W):
  Calls prog 73 #[.int .i64 (i:Int),.pointer (some ⟨bp,0,none⟩),.pointer (some ⟨bo,0,none⟩)] W (eJ xs.length g J S W j f.fields.length):=by
 have hPW:=hP.below (hJK _ _ hJ)
 have hil:=(Bp.1 hi).1
 have hiz:(i:Int)<(p.headers.length:Int):=by omega
 have lst:=hPW.headers.len
 obtain ⟨b,o,ecs,hA,hb,hel,hcell,B1,d1,rfl,hn,hF⟩:=hPW.headers.2 i f hi
 subst hA
 have lf:=hF.len
 have x0:W.cell? ⟨b,o+i*2,none⟩=some (.string f.name):=by simpa using hcell 0 _ rfl
 have x1:W.cell? ⟨b,o+i*2+1,none⟩=some (.slice B1 f.fields.length d1):=hcell 1 _ rfl
 have hc:=au hh.prog
 have hcy:=au hh.yield
 obtain ⟨z0,z1,z2,z3,z4,z5,z6⟩:=aF (w:=W) (a:=bp) fun i=>hc i
 have y0:W.cell? ⟨bo,0,none⟩=some (.func (.yield l) #[] #[]):=hcy 0
 have hM:=aa (fun (W1:World) (h:J j W1)=>d9 hY 2 (i:Int) f.fields.length j lf hx W1 h)
 have hJ1:=aa (cY hown hJ (show Below W.heap.size W W.drew from (Bi _ _).drew))
 have hkd:=aa (Kp.of_below lv (show Below W.heap.size W W.drew from (Bi _ _).drew))
 clear hcell hc hcy hJ hP hPW hF hh hi hx hJK
 go_enter func73,ntmps73
 go_wp2_with fail
 go_still_tail 9,(by kernel_rfl)
 change wpList _ _ _ _ _ W.drew
 generalize W.drew=W1 at hJ1 hkd ⊢
 go_wp2_with fail
 refine (hM.out W1 hJ1.out).mono ?_
 rintro e W2 ⟨rfl,h1,h2⟩
 replace h1:=aa h1
 replace h2:=aa h2
 go_wp2
 go_ret
 exact ⟨rfl,fun h=>⟨(h1.out h).1,hkd.out.trans (h1.out h).2⟩,h2.out⟩
end Go.Proofs.YtbbdhknagofghaaGreat

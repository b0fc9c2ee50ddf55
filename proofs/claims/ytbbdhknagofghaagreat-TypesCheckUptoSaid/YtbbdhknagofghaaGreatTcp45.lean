import Derived.Test.YtbbdhknagofghaaGreatTcp42
import Derived.Test.YtbbdhknagofghaaGreatTcp44
set_option linter.all false
set_option maxHeartbeats 4000000
set_option maxRecDepth 100000
open Go.Proofs.Tryz
namespace Go.Proofs.YtbbdhknagofghaaGreat
open _root_.Nat renaming lt_of_lt_of_le→Bg, le_trans→Bj, le_refl→Bm
open _root_.Go.RowKit.Below renaming refl→Bi
open _root_.List renaming getElem?_eq_some_iff→Bp, all_eq_true→Bw, length_cons→By, cons_append→BC, nil_append→BH, mem_append→BL, length_nil→BV
open _root_.Array renaming getElem?_eq_some_iff→Bs
open Go.RowKit
section
attribute [local go_sem] Oper.semAt_some
attribute [local go_sem ↓] pX
theorem Kp.of_own' {ex:TypeId→Bool} {W w':World} {base:Nat} {e:TypeId} {size n:Nat} {v:Value} {xs:List Value} (ho:W.ownsRow base e size v n xs) (hex:ex e=true) (hg:W.grownBy w' v.ownBlock):Kp ex W w':=by
 rcases ho.2 with ⟨rfl,_⟩|⟨g,cap,cur,rfl,_,hh,_⟩
 ·exact ⟨hg.os,hg.tape,hg.output,hg.size,fun k o hk _=>(hg.block k (Bs.1 hk).1 (by simp [Value.ownBlock])).trans hk⟩
 ·exact Kp.of_grown hg hh hex
theorem tN {W:World} {base B:Nat} {v:Value} {l:List It} (x:It) (cs:Array Value) (hd:dq W base B v l) (hx:oL W B cs.toList x) (h17:cs.size=17) (h1:∀ u∈cs.toList,u.oneCell'=true) (hB:B≤base) (hb:base≤W.heap.size) (hz:l.length≤dd):
  ∃ v' w',(tJ #[36,36] 36 #[v,.slice (some ⟨W.heap.size,0,none⟩) 1 1]).run prog (W.alloc (.cells cs 49))=.ok v' w'∧dq w' base B v' (l++ [x])∧Below base W w'∧Kp lv W w':=by
 have hba:Below W.heap.size W (W.alloc (.cells cs 49)):=(Bi _ _).alloc (Bm _) _
 have hd':=hd.below hba (Bm _) (Bj hB hb)
 have hx':=dJ.keep hx fun q hq=>hba.cell (Bg hq (Bj hB hb))
 have hc0:∀ i,(W.alloc (.cells cs 49)).cell? ⟨W.heap.size,i,none⟩=cs[i]? :=fun _=>World.cell?_alloc_at _ _ _ _ rfl
 have hs:W.heap.size≤(W.alloc (.cells cs 49)).heap.size:=hba.size
 obtain ⟨Z,h2,h3,h4⟩:=hd'
 subst h2
 rw [List.length_map] at h4 hz
 obtain ⟨ii,hii,hzi0,hzi1,hzi2⟩:=info_parts kD
 unfold dd at hz
 obtain ⟨v',w',hrun,g2,g3,_,_⟩:=run_append_own_at (P:=prog) (W.alloc (.cells cs 49)) base 36 36 49 ii _ 17 216 underlying36 hii hzi0 hzi1 hzi2 rfl (by omega) v Z.length _ h4 ⟨W.heap.size,0,none⟩ 1 1 cs.toList (by simp [h17]) (fun j u hu=>by rw [nd,Nat.zero_add,hc0];simpa using hu) h1 (by simp [maxLen];omega) (by omega) (by omega)
 have hbl:Below base (W.alloc (.cells cs 49)) w':=(Bi _ _).grown g3 (by omega) (fun g e=>(h4.lt g e).1)
 refine ⟨v',w',hrun,⟨Z++ [(cs.toList,x)],by simp,fun z hz=> ?_,by simpa using g2⟩,(hba.mono hb).trans hbl,(Kp.of_below lv hba).trans (Kp.of_own' h4 rfl g3)⟩
 have hk:∀ q:Addr,q.block<B→w'.cell? q=(W.alloc (.cells cs 49)).cell? q:=fun q hq=>hbl.cell (Bg hq hB)
 rcases BL.1 hz with hz|hz
 ·exact ⟨(h3 z hz).1,(h3 z hz).2.1,dJ.keep (h3 z hz).2.2 hk⟩
 ·rw [List.mem_singleton] at hz
  subst hz
  exact ⟨by simp [h17],h1,dJ.keep hx' hk⟩
def AC (w:World) (B:Nat) (xs:List It) (k:Nat) (W:World):Prop:=
 (∃ v,Boxed W w.heap.size 36 v∧dq W (w.heap.size+1) B v (xs.take k))∧Below w.heap.size w W
theorem dq.own {W X:World} {base B Bf:Nat} {v:Value} {l:List It} {row:Option Nat} (h:dq W base B v l) (hg:W.grownBy X row) (hr:∀ r,row=some r→Bf≤r∧∃ o:Obj,W.heap[r]? =some o∧o.isCells=false) (hB:B≤Bf) (hs:B≤W.heap.size):dq X base B v l:=by
 obtain ⟨Z,h1,h2,h3⟩:=h
 refine ⟨Z,h1,fun z hz=>⟨(h2 z hz).1,(h2 z hz).2.1,dJ.keep (h2 z hz).2.2 fun q hq=>World.cell?_of_block (hg.block q.block (Bg hq hs) (fun e=>by have:=(hr _ e.symm).1;omega))⟩,?_⟩
 exact rF (β:=Unit) _ _ _ _ _ _ () W X row h3 hg (fun r e=>(hr r e).2)
theorem dq.set {W:World} {base B a:Nat} {v x:Value} {l:List It} (h:dq W base B v l) (ha:a<base) (hB:B≤a):dq (W.setCell ⟨a,0,none⟩ x) base B v l:=by
 obtain ⟨Z,h1,h2,h3⟩:=h
 refine ⟨Z,h1,fun z hz=>⟨(h2 z hz).1,(h2 z hz).2.1,dJ.keep (h2 z hz).2.2 fun q hq=>World.cell?_of_block (Below.heap_setCell W ⟨a,0,none⟩ x q.block (fun e=>by simp only at e;omega))⟩,h3.1,?_⟩
 rcases h3.2 with h|⟨g,cap,cur,rfl,hg,hh,r⟩
 ·exact .inl h
 ·exact .inr ⟨g,cap,cur,rfl,hg,(Below.heap_setCell W ⟨a,0,none⟩ x g (fun e=>by simp only at e;omega)).trans hh,r⟩
theorem yj (w:World) (B B':Nat) (xs:List It) (hB:B≤w.heap.size) (hB':w.heap.size≤B'):OwnFrom B' (AC w B xs):=by
 refine OwnFrom.and (I:=fun k W=>∃ v,Boxed W w.heap.size 36 v∧dq W (w.heap.size+1) B v (xs.take k)) ?_ (ownFrom_below (Bm _) hB')
 rintro k X Y row ⟨v,hv,hi⟩ hg hr
 have:=hv.lt
 exact ⟨v,boxed_own _ 36 (fun _:Unit=>v) () X Y row hv hg (fun r e=>(hr r e).2),hi.own hg hr (Bj hB hB') (by omega)⟩
theorem ng (gf:Nat) (lb:Array Value) (eg:∀ args w,(callFunc gf args).run prog w=.ok (.enter gf args) w) (xs:List It) (hl:xs.length≤dd) (B:Nat) (w:World) (hB:B≤w.heap.size) (hseq:pQ prog gf lb (zB B) lv xs (fun _=>true) (fun W=>Below w.heap.size w W) w):
  Calls prog 94 #[.slice none 0 0,.func (.func gf) #[] lb] w fun e w'=>∃ v base,e=.returned v∧dq w' base B v xs∧Below w.heap.size w w':=by
 refine (callsIn_wide (n:=3)).1 (callsIn_of_wp_marks func94 rfl trivial ?_)
 simp only [ntmps94,List.size_toArray,By,BV,Nat.reduceAdd,Nat.reduceSub,Array.replicate_succ,Array.replicate_zero,List.push_toArray,List.append_toArray,BH,BC]
 gi_wp2
 obtain ⟨W1,hW1⟩:∃ W1,w.alloc (.cells #[.slice none 0 0] 36)=W1:=⟨_,rfl⟩
 have hb1:Below w.heap.size w W1:=by rw [←hW1];exact (Bi _ _).alloc (Bm _) _
 have hv1:Boxed W1 w.heap.size 36 (.slice none 0 0):=by rw [←hW1];exact Boxed.new w _ _
 have hz1:w.heap.size+1≤W1.heap.size:=by rw [←hW1];simp
 rw [hW1]
 clear hW1
 refine oQ (gf:=gf) (lb:=lb) rfl eg hseq hb1 rfl (fun x v=>un (by omega) x v) (AC w B xs) (fun _ _=>False) (yj w B _ xs hB (by omega)) (fun _ _ _ _ h _ _=>h) (fun k W' h=>h.2) ⟨⟨_,hv1,dq.nil_ _ _ _⟩,hb1⟩
  (fun v W=> { tmps:=#[.slice none 0 0,.func (.func gf) #[] lb,.pointer (some ⟨w.heap.size,0,none⟩),undef,.slice none 0 0,.pointer (some ⟨W.heap.size,0,none⟩),.func (.func gf) #[] lb,v,undef,undef,undef,undef,undef],defers:= []}) up lD ?hassign ?hbody ?hdone ?hstop
 case hassign=>
  rintro l x v W K ⟨-,cs,rfl,scs,rfl,hs⟩ hK
  obtain ⟨xk,xa,xb,st⟩:=x
  obtain ⟨kind,head,name,e,thn,els⟩:=st
  obtain ⟨es,A,cap,A',cap',rfl,-,-,-,he,hT,hE⟩:=RS.inv hs
  obtain ⟨op,lit,ehead,ename,hi,lo,args⟩:=e
  obtain ⟨Ae,ecap,rfl,-⟩:=RE.inv he
  have hK':=aa hK
  clear hK hs he hT hE
  simp only [AN,yu,uA,BC,BH] at hK' ⊢
  gi_wp2
  exact hK'.out
 case hbody=>
  rintro l k x v W0 W hl' hx ⟨-,cs,rfl,hr0⟩ hkeep ⟨⟨v,hv,hit⟩,hbw⟩ hr
  have hbox:=hkeep W0.heap.size _ (World.alloc_heap_new W0 (.cells cs.toArray 49)) rfl
  have hBW:w.heap.size+1≤W.heap.size:=hv.lt
  have hitm:oL W B cs x:=by
   obtain ⟨-,cs',e,h⟩:=hr
   have:cs.toArray=cs'.toArray:=by injection e
   have:cs=cs':=by simpa using this
   rw [this];exact h
  have hkl:=(Bp.1 hx).1
  have htk:(xs.take k).length≤dd:=by rw [List.length_take];omega
  have hnx:xs.take (k+1)=xs.take k++ [x]:=by rw [List.take_add_one,hx];rfl
  obtain ⟨scs,rfl,hs⟩:=hr0
  obtain ⟨xk,xa,xb,st⟩:=x
  obtain ⟨kind,head,name,e,thn,els⟩:=st
  obtain ⟨es,A,cap,A',cap',rfl,-,-,-,he,hT,hE⟩:=RS.inv hs
  obtain ⟨op,lit,ehead,ename,hi,lo,args⟩:=e
  obtain ⟨Ae,ecap,rfl,-⟩:=RE.inv he
  simp only [AN,yu,uA,BC,BH] at hbox hitm ⊢
  obtain ⟨v',w',hrun,hI,hbl,hkp⟩:=tN _ _ hit hitm rfl (Bw.1 rfl) (by omega) hBW htk
  rw [←hnx] at hI
  obtain ⟨vA,vc,hvf⟩:=hI.form
  generalize (xs.take (k+1)).length=ln at hvf
  subst hvf
  have hv2:Boxed w' w.heap.size 36 v:=(hbl.block _ (by omega)).trans hv
  have hcb:=au hbox
  obtain ⟨n0,n1,n2,n3,n4,n5,n6,n7,n8,n9,n10,n11,n12,n13,n14,n15,n16⟩:=bv hcb
  have c1:=hv.cell
  have c2:=hv2.cell
  have c3:=hv2.frozen
  have c4:=hv2.lt
  replace hI:=aa hI
  replace hv2:=aa hv2
  have hB2:=aa ((hbw.trans (hbl.mono (by omega))).setCell (p:=⟨w.heap.size,0,none⟩) (by simp) (.slice vA ln vc))
  have hK2:=aa (hkp.trans (Kp.setCell (i:=0) hv2.out rfl (.slice vA ln vc)))
  have hIset:=aa (hI.out.set (a:=w.heap.size) (x:=(.slice vA ln vc)) (by omega) hB)
  have hVset:=aa (hv2.out.set (.slice vA ln vc))
  clear hkeep hbox hcb hit hitm hs hr hx hbw hv hbl hkp hseq he hT hE hnx htk
  gi_wp2
  exact ⟨hK2.out,⟨_,hVset.out,hIset.out⟩,hB2.out⟩
 case hdone=>
  rintro D W rfl ⟨⟨v,hv,hit⟩,hbw⟩ hD hkD
  have hv':=hv.cell
  rw [List.take_length] at hit
  replace hit:=aa hit
  dsimp only
  gi_wp2
  refine eI (B:=w.heap.size) (fun X=>dq X (w.heap.size+1) B v xs∧Below w.heap.size w X) ?_ ?_ [W1.heap.size] W ⟨by simp,fun D hD'=>by simp at hD';subst hD';exact ⟨by omega,hD⟩⟩ ⟨hit.out,hbw⟩
  ·rintro _ X Y row ⟨hi,hb⟩ hg hr
   exact ⟨hi.own hg hr hB (Bj hB hb.size),ownFrom_below (β:=Unit) (Bm _) (Bm _) () X Y row hb hg hr⟩
  ·exact fun X h=>⟨_,results_tmp rfl _ _ _,v,_,rfl,h⟩
 case hstop=>rintro D k W rfl hk h;exact h.elim
end
theorem tO (A1 A2 A3 A4 A5 A6 A7:Option Addr) (p:Pg) (c1 c2 c3 c4 c5 c6 c7:Nat) (n0 e0:Int) (he:¬e0=0) (w:World)
  (hC:∀ W,Below w.heap.size w W→Calls prog 17 #[.agg (aq p A1 A2 A3 A4 A5 A6 A7 c1 c2 c3 c4 c5 c6 c7)] W fun e W'=>e=.returned (.tuple #[.int .i64 n0,.int .i64 e0])∧Below W.heap.size W W'):
  Calls prog 7 #[.agg (aq p A1 A2 A3 A4 A5 A6 A7 c1 c2 c3 c4 c5 c6 c7)] w fun e w'=>e=.returned (.tuple #[.int .i64 n0,.int .i64 e0])∧Below w.heap.size w w':=by
 unfold aq
 obtain ⟨wu,hwu,hsu,hbu,hcu,-⟩:=al w (aq p A1 A2 A3 A4 A5 A6 A7 c1 c2 c3 c4 c5 c6 c7) 30
 obtain ⟨u0,u1,u2,u3,u4,u5,u6⟩:=aF hcu
 have hl1:w.heap.size<wu.heap.size:=by omega
 have hC1:=aa (hC wu hbu)
 have hq:(e0 !=0)=true:=bne_iff_ne.2 he
 replace hsu:=aa hsu
 clear hC hcu
 go_enter func7,ntmps7
 go_wp2_with (go_at_call 17;refine hC1.out.mono ?_;rintro e w1 ⟨rfl,hb1⟩)
 go_ret2
 exact ⟨rfl,hbu.trans (hb1.mono (Nat.le_of_lt hl1))⟩
end Go.Proofs.YtbbdhknagofghaaGreat

import Derived.Test.YtbbdhknagofghaaGreatTcp29
import Derived.Test.YtbbdhknagofghaaGreatTcp25
set_option linter.all false
set_option maxHeartbeats 8000000
set_option maxRecDepth 100000
open Go.Proofs.Tryz
namespace Go.Proofs.YtbbdhknagofghaaGreat
open _root_.Nat renaming lt_of_lt_of_le→Bg, le_trans→Bj, le_refl→Bm, zero_le→Bo
open _root_.Go.RowKit.Below renaming refl→Bi
open _root_.List renaming getElem?_eq_getElem→Bk, getElem?_eq_some_iff→Bp, length_append→Bq, getElem_mem→Bv, all_eq_true→Bw, length_cons→By, take_of_length_le→BB, cons_append→BC, length_singleton→BG, append_assoc→BK, mem_append→BL, getElem?_append_right→BN, take_succ_eq_append_getElem→BO, mem_cons_of_mem→BT, getElem?_append_left→BU, mem_cons_self→BW, flatMap_cons→BZ
open Go.RowKit
def tJ (ts:Array TypeId) (ty:TypeId) (args:Array Value):Sem Value:=Builtin.append_ ts ty args
theorem pX (ts:Array TypeId) (ty:TypeId) (args:Array Value):Builtin.append_ ts ty args=tJ ts ty args:=rfl
theorem kD:(prog.info? 49).map (fun i=>(i.zero,i.size,i.bytes))=some (some (.agg #[.int .u8 0,.int .i64 0,.int .i64 0,.int .u8 0,.string ⟨#[]⟩,.string ⟨#[]⟩,.int .u8 0,.int .i64 0,.int .u64 0,.int .u64 0,.string ⟨#[]⟩,.string ⟨#[]⟩,.int .i64 0,.int .i64 0,.slice none 0 0,.slice none 0 0,.slice none 0 0]),17,216):=by kernel_rfl
theorem tK {w w':World} {base B:Nat} {e:TypeId} {size:Nat} {v:Value} {n:Nat} {xs:List Value} (h:w.ownsRow base e size v n xs) (hb:Below B w w') (hB:w.heap.size≤B):w'.ownsRow base e size v n xs:=by
 refine ⟨h.1,?_⟩
 rcases h.2 with h2|⟨g,cap,cur,rfl,hg,hh,r⟩
 ·exact .inl h2
 ·have:=(h.lt g rfl).2
  exact .inr ⟨g,cap,cur,rfl,hg,(hb.block g (by omega)).trans hh,r⟩
theorem yi:∀ (Z:List (List Value×It)),(∀ z∈Z,z.1.length=17)→∀ (i j:Nat) (z:List Value×It) (u:Value),Z[i]? =some z→z.1[j]? =some u→(Z.flatMap Prod.fst)[i*17+j]? =some u
 | [],_,i,j,x,u,h,_=>by simp at h
 |y::xs,_,0,j,x,u,h,hu=>by
  simp at h;subst h
  have:j<y.1.length:=(Bp.1 hu).1
  simp [BZ,BU this,hu]
 |y::xs,hf,i+1,j,x,u,h,hu=>by
  have ih:=yi xs (fun z hz=>hf z (BT _ hz)) i j x u (by simpa using h) hu
  have hy:=hf y BW
  rw [BZ,BN (by rw [hy,Nat.add_mul];omega),←ih]
  congr 1
  rw [hy,Nat.add_mul];omega
def dd:Nat:=100000000
def dq (w:World) (base B:Nat) (v:Value) (l:List It):Prop:=
 ∃ Z:List (List Value×It),l=Z.map Prod.snd∧(∀ z∈Z,z.1.length=17∧(∀ u∈z.1,u.oneCell'=true)∧oL w B z.1 z.2)∧w.ownsRow base 49 17 v l.length (Z.flatMap Prod.fst)
theorem dq.nil_ (w:World) (base B:Nat):dq w base B (.slice none 0 0) []:=⟨[],rfl,by simp,World.ownsRow_nil _ _ _ _⟩
theorem dq.below {w w':World} {base B C:Nat} {v:Value} {l:List It} (h:dq w base B v l) (hb:Below C w w') (hC:w.heap.size≤C) (hB:B≤w.heap.size):dq w' base B v l:=by
 obtain ⟨Z,h1,h2,h3⟩:=h
 exact ⟨Z,h1,fun z hz=>⟨(h2 z hz).1,(h2 z hz).2.1,dJ.keep (h2 z hz).2.2 fun q hq=>hb.cell (Bg hq (Bj hB hC))⟩,tK h3 hb hC⟩
theorem dq.form {w:World} {base B:Nat} {v:Value} {l:List It} (h:dq w base B v l):∃ A cap,v=.slice A l.length cap:=by
 obtain ⟨Z,h1,h2,h3⟩:=h
 rcases h3.2 with ⟨rfl,hz⟩|⟨g,cap,cur,rfl,_⟩
 ·exact ⟨none,0,by rw [hz]⟩
 ·exact ⟨_,_,rfl⟩
theorem zS:∀ Z:List (List Value×It),(∀ z∈Z,z.1.length=17)→(Z.flatMap Prod.fst).length=Z.length*17
 | [],_=>rfl
 |z::Z,h=>by
  have h1:=h z BW
  have h2:=zS Z fun y hy=>h y (BT _ hy)
  simp only [BZ,Bq,By,h1,h2];omega
theorem dq.one {Z:List (List Value×It)} {w:World} {B:Nat} (h2:∀ z∈Z,z.1.length=17∧(∀ u∈z.1,u.oneCell'=true)∧oL w B z.1 z.2):∀ u∈Z.flatMap Prod.fst,u.oneCell'=true:=fun u hu=>by
 obtain ⟨z,hz,hu⟩:=List.mem_flatMap.1 hu
 exact (h2 z hz).2.1 u hu
theorem uq {W:World} {base B m c:Nat} {v:Value} {a:Addr} {Z Y:List (List Value×It)} (hl:Z.length≤dd) (hm:m=Y.length) (hy:m≤dd)
  (hZ:∀ z∈Z,z.1.length=17∧(∀ u∈z.1,u.oneCell'=true)∧oL W B z.1 z.2) (hY:∀ z∈Y,z.1.length=17∧(∀ u∈z.1,u.oneCell'=true)∧oL W B z.1 z.2)
  (ho:W.ownsRow base 49 17 v Z.length (Z.flatMap Prod.fst)) (hB:B≤base) (hb:base≤W.heap.size)
  (hc:∀ j u,(Y.flatMap Prod.fst)[j]? =some u→W.cell? (a.add j)=some u):
  ∃ v' w',(tJ #[36,36] 36 #[v,.slice (some a) m c]).run prog W=.ok v' w'∧dq w' base B v' (Z.map Prod.snd++Y.map Prod.snd)∧Below base W w':=by
 subst hm
 obtain ⟨ii,hii,hzi0,hzi1,hzi2⟩:=info_parts kD
 unfold dd at hl hy
 obtain ⟨v',w',hrun,h2,h3,_,_⟩:=run_append_own_at (P:=prog) W base 36 36 49 ii _ 17 216 underlying36 hii hzi0 hzi1 hzi2 rfl (by omega) v Z.length _ ho a Y.length c (Y.flatMap Prod.fst) (zS Y fun z hz=>(hY z hz).1) hc (dq.one hY) (by simp [maxLen];omega) (by omega) hb
 have hbl:Below base W w':=(Bi _ _).grown h3 hb (fun g e=>(ho.lt g e).1)
 refine ⟨v',w',hrun,⟨Z++Y,by simp,fun z hz=> ?_,by simpa using h2⟩,hbl⟩
 have hk:∀ q:Addr,q.block<B→w'.cell? q=W.cell? q:=fun q hq=>hbl.cell (Bg hq hB)
 rcases BL.1 hz with hz|hz
 ·exact ⟨(hZ z hz).1,(hZ z hz).2.1,dJ.keep (hZ z hz).2.2 hk⟩
 ·exact ⟨(hY z hz).1,(hY z hz).2.1,dJ.keep (hY z hz).2.2 hk⟩
theorem nd {g o j:Nat}:(⟨g,o,none⟩:Addr).add j=⟨g,o+j,none⟩:=by unfold Addr.add;split<;>simp_all
theorem oV {W:World} {base B:Nat} {v:Value} {l:List It} (x:It) (cs:Array Value) (hd:dq W base B v l) (hx:oL W B cs.toList x) (h17:cs.size=17) (h1:∀ u∈cs.toList,u.oneCell'=true) (hB:B≤base) (hb:base≤W.heap.size) (hz:l.length≤dd):
  ∃ v' w',(tJ #[36,36] 36 #[v,.slice (some ⟨W.heap.size,0,none⟩) 1 1]).run prog (W.alloc (.cells cs 49))=.ok v' w'∧dq w' base B v' (l++ [x])∧Below base W w':=by
 have hba:Below W.heap.size W (W.alloc (.cells cs 49)):=(Bi _ _).alloc (Bm _) _
 have hd':=hd.below hba (Bm _) (Bj hB hb)
 have hx':=dJ.keep hx fun q hq=>hba.cell (Bg hq (Bj hB hb))
 have hc0:∀ i,(W.alloc (.cells cs 49)).cell? ⟨W.heap.size,i,none⟩=cs[i]? :=fun _=>World.cell?_alloc_at _ _ _ _ rfl
 have hs:W.heap.size≤(W.alloc (.cells cs 49)).heap.size:=hba.size
 obtain ⟨Z,h2,h3,h4⟩:=hd'
 subst h2
 rw [List.length_map] at h4 hz
 obtain ⟨v',w',hr,hI,hw⟩:=uq (W:=W.alloc (.cells cs 49)) (a:=⟨W.heap.size,0,none⟩) (Y:= [(cs.toList,x)]) (c:=1) (m:=1) hz rfl (by unfold dd;omega) h3 (fun z hz=>by
  rw [List.mem_singleton] at hz
  subst hz
  exact ⟨h17,h1,hx'⟩) h4 hB (by omega) (fun j u hu=>by
  simp only [BZ,List.flatMap_nil,List.append_nil] at hu
  rw [nd,Nat.zero_add,hc0]
  simpa using hu)
 exact ⟨v',w',hr,hI,(hba.mono hb).trans hw⟩
theorem cL {W:World} {base base' B:Nat} {v u:Value} {l m:List It} (hd:dq W base B v l) (hs:dq W base' B u m) (hB:B≤base) (hb:base≤W.heap.size) (hz:l.length≤dd) (hm:m.length≤dd):
  ∃ v' w',(tJ #[36,36] 36 #[v,u]).run prog W=.ok v' w'∧dq w' base B v' (l++m)∧Below base W w':=by
 obtain ⟨Z,h2,h3,h4⟩:=hd
 obtain ⟨Y,g2,g3,g4⟩:=hs
 subst h2 g2
 rw [List.length_map] at h4 hz hm g4
 rcases g4.2 with ⟨rfl,hz0⟩|⟨g,cap,cur,rfl,_,hg,_⟩
 ·have hy:Y= []:=List.eq_nil_of_length_eq_zero hz0
  subst hy
  obtain ⟨ii,hii,hzi0,hzi1,hzi2⟩:=info_parts kD
  refine ⟨v,W,?_,by rw [List.map_nil,List.append_nil];exact ⟨Z,rfl,h3,by rw [List.length_map];exact h4⟩,Bi _ _⟩
  unfold tJ
  rcases h4.2 with ⟨rfl,hzz⟩|⟨g,cap,cur,rfl,_,_,hnc,_⟩
  ·simp [Builtin.append_,run_underlying underlying36,sizeOf,typeInfo,hii,Builtin.lenOf,Builtin.firstCells]
  ·simp [Builtin.append_,run_underlying underlying36,sizeOf,typeInfo,hii,Builtin.lenOf,Builtin.firstCells,hnc,storeCells]
 ·exact uq (a:=⟨g,0,none⟩) hz rfl hm h3 g3 h4 hB hb fun j x hx=>g4.cells (g:=g) rfl j x hx
theorem dq.sl {w:World} {base B:Nat} {v:Value} {l:List It} (h:dq w base B v l) (hB:B≤w.heap.size) (hl:l.length≤dd):∃ A cap,v=.slice A l.length cap∧Sl 17 oL w w.heap.size A l:=by
 obtain ⟨Z,rfl,h3,h4⟩:=h
 rw [List.length_map] at h4 hl ⊢
 unfold dd at hl
 rcases h4.2 with ⟨rfl,hz⟩|⟨g,cap,cur,rfl,hb,hg,_⟩
 ·have:Z= []:=List.eq_nil_of_length_eq_zero hz
  subst this
  exact ⟨none,0,rfl,Sl.nil_⟩
 ·refine ⟨some ⟨g,0,none⟩,cap,rfl,by rw [List.length_map];simp [maxLen];omega,fun i x hx=> ?_⟩
  have hi:i<Z.length:=by simpa using (Bp.1 hx).1
  have hzi:Z[i]? =some Z[i]:=Bk hi
  have hm:=h3 _ (Bv hi)
  have hxe:Z[i].2=x:=by simpa [hzi] using hx
  refine ⟨g,0,Z[i].1,rfl,(h4.lt g rfl).2,hm.1,fun j u hu=> ?_,hxe ▸ dJ.more hm.2.2 hB⟩
  have hj:j<17:=by rw [←hm.1];exact (Bp.1 hu).1
  have:=h4.cells (g:=g) rfl (i*17+j) u (yi Z (fun z hz=>(h3 z hz).1) i j _ u hzi hu)
  rw [nd] at this
  rw [Nat.add_assoc]
  exact this
section
attribute [local go_sem ↓] pX
theorem tL (kind:Int) (a k:Nat):aR kind a (k+1)=aR kind a k++ [⟨kind,(a:Int),(k:Int),de⟩]:=by
 unfold aR;rw [List.range_succ,List.map_append];rfl
theorem cU {W:World} {base B:Nat} {v:Value} {l:List It} (k a b:Int) (hd:dq W base B v l) (hB:B≤base) (hb:base≤W.heap.size) (hz:l.length≤dd):
  ∃ v' w',(tJ #[36,36] 36 #[v,.slice (some ⟨W.heap.size,0,none⟩) 1 1]).run prog (W.alloc (.cells #[.int .u8 k,.int .i64 a,.int .i64 b,.int .u8 0,.string ⟨#[]⟩,.string ⟨#[]⟩,.int .u8 0,.int .i64 0,.int .u64 0,.int .u64 0,.string ⟨#[]⟩,.string ⟨#[]⟩,.int .i64 0,.int .i64 0,.slice none 0 0,.slice none 0 0,.slice none 0 0] 49))=.ok v' w'∧dq w' base B v' (l++ [⟨k,a,b,de⟩])∧Below base W w':=
 oV ⟨k,a,b,de⟩ #[.int .u8 k,.int .i64 a,.int .i64 b,.int .u8 0,.string ⟨#[]⟩,.string ⟨#[]⟩,.int .u8 0,.int .i64 0,.int .u64 0,.int .u64 0,.string ⟨#[]⟩,.string ⟨#[]⟩,.int .i64 0,.int .i64 0,.slice none 0 0,.slice none 0 0,.slice none 0 0] hd ⟨Au,rfl,rG _ _⟩ rfl (Bw.1 rfl) hB hb hz
theorem ea (kind:Int) (a n B:Nat) (w:World) (hB:B≤w.heap.size) (hn:n≤dd):
  Calls prog 24 #[.int .u8 kind,.int .i64 (a:Int),.int .i64 (n:Int)] w fun e w'=>∃ v,e=.returned v∧dq w' w.heap.size B v (aR kind a n)∧Below w.heap.size w w':=by
 have hn9:n≤100000000:=hn
 go_enter func24,ntmps24
 go_wp2
 go_loopw [7,8] (fun v i wr=>∃ k:Nat,k≤n∧i=.int .i64 k∧Hid (dq wr w.heap.size B v (aR kind a k))∧Hid (Below w.heap.size w wr)) (fun _ i _=>n-(intOf i).toNat)
 case atStart=>exact ⟨0,Bo _,rfl,aa (dq.nil_ _ _ _),aa (Bi _ _)⟩
 case round=>
  obtain ⟨k,hk,rfl,hR,hbr⟩:=hrel
  by_cases hlt:k<n
  ·have hltz:(k:Int)<(n:Int):=by omega
   obtain ⟨v',w',hr,hI,hw⟩:=cU kind (a:Int) (k:Int) hR.out hB hbr.out.size (by rw [aj];exact Bj hk hn)
   rw [←tL] at hI
   replace hI:=aa hI
   have hbN:=aa (hbr.out.trans hw)
   clear hw hR hbr
   go_wp2
   go_roundw
   case rel=>exact ⟨k+1,by omega,by go_num,hI,hbN⟩
   case measure=>simp [intOf];omega
  ·have hk':k=n:=by omega
   subst hk'
   go_wp2
   go_ret
   exact ⟨_,rfl,hR.out,hbr.out⟩
theorem iI (a:Int) (l m:List St):am a (l++m)=am a l++am a m:=by rw [cf,cf,cf,List.flatMap_append]
theorem rS {a:Int} {l:List St} {k:Nat} (hk:k<l.length):am a (l.take (k+1))=am a (l.take k)++cO a l[k]:=by
 rw [BO hk,iI]
 simp [am]
theorem wl {a:Int} {l:List St} (k:Nat):(am a (l.take k)).length≤(am a l).length:=by
 conv=>rhs;rw [←List.take_append_drop k l,iI,Bq]
 omega
def us (l:List St):Prop:=∀ (a:Int) (A:Option Addr) (cap:Nat) (w:World) (B:Nat),B≤w.heap.size→Sl 14 dR w B A l→(am a l).length≤dd→
 Calls prog 25 #[.int .i64 a,.slice A l.length cap] w fun e w'=>∃ v,e=.returned v∧dq w' w.heap.size B v (am a l)∧Below w.heap.size w w'
def ut:St→Prop
 | .mk _ _ _ _ thn els=>us thn∧us els
theorem ja (l:List St) (ih:∀ x∈l,ut x):us l:=by
 intro a A cap w B hB hS hbig
 have hl:=hS.len
 replace ih:=aa ih
 replace hS:=aa hS
 go_enter func25,ntmps25
 go_wp2
 go_loopw [5,6] (fun v i wr=>∃ k:Nat,k≤l.length∧i=.int .i64 k∧Hid (dq wr w.heap.size B v (am a (l.take k)))∧Hid (Below w.heap.size w wr)) (fun _ i _=>l.length-(intOf i).toNat)
 case atStart=>exact ⟨0,Bo _,rfl,aa (dq.nil_ _ _ _),aa (Bi _ _)⟩
 case round=>
  obtain ⟨k,hk,rfl,hR,hbr⟩:=hrel
  by_cases hlt:k<l.length
  ·obtain ⟨b,o,ecs,hA,hb,hel,hcell,hr⟩:=hS.out.2 k _ (Bk hlt)
   subst hA
   have hltz:(k:Int)<(l.length:Int):=by omega
   have ht:=rS (a:=a) hlt
   have hin:=ih.out _ (Bv hlt)
   have hle:=wl (a:=a) (l:=l) (k+1)
   generalize l[k]=x at hr ht hin
   obtain ⟨kind,head,name,e,thn,els⟩:=x
   have hr0:=hr
   obtain ⟨es,A1,c1,A2,c2,rfl,h0,h1,h2,he,hT,hE⟩:=RS.inv hr
   have l1:=hT.len
   have l2:=hE.len
   simp only [cO] at ht
   rw [ht,Bq,By,Bq] at hle
   have hbN0:b<w.heap.size:=by omega
   have hk0:(am a (l.take k)).length≤dd:=by unfold dd at hbig ⊢;omega
   have hk1:(am a thn).length≤dd:=by unfold dd at hbig ⊢;omega
   have hk2:(am a els).length≤dd:=by unfold dd at hbig ⊢;omega
   have hk3:(am a (l.take k)++ [(⟨10,a,0,.mk kind head name e thn els⟩:It)]).length≤dd:=by rw [Bq,BG];unfold dd at hbig ⊢;omega
   have hk4:((am a (l.take k)++ [(⟨10,a,0,.mk kind head name e thn els⟩:It)])++am a thn).length≤dd:=by rw [Bq,Bq,BG];unfold dd at hbig ⊢;omega
   have hes:es.length=9:=by simpa [yu] using hel
   obtain ⟨op,lit,ehead,ename,hi,lo,args⟩:=e
   obtain ⟨Ae,ecap,rfl,-,-,-,-,-,-,hs⟩:=RE.inv he
   have l3:=hs.len
   obtain ⟨x0,x1,x2,x3,x4,x5,x6,x7,x8,x9,x10,x11,x12,x13⟩:=su hcell
   have hc:=ab hbr.out
   obtain ⟨v1,w1,hr1,hI1,hw1⟩:=oV (W:=wr) ⟨10,a,0,.mk kind head name (.mk op lit ehead ename hi lo args) thn els⟩ #[.int .u8 10,.int .i64 a,.int .i64 0,.int .u8 kind,.string head,.string name,.int .u8 op,.int .i64 lit.1,.int .u64 lit.2.1,.int .u64 lit.2.2,.string ehead,.string ename,.int .i64 hi,.int .i64 lo,.slice Ae args.length ecap,.slice A1 thn.length c1,.slice A2 els.length c2] hR.out
    ⟨_,rfl,be.keep hr0 fun q hq=>(hbr.out.mono hB).cell hq⟩ rfl (Bw.1 rfl) hB hbr.out.size hk0
   have hb1:=hbr.out.trans hw1
   have hT1:=aa (hin.1 a A1 c1 w1 B (Bj hB hb1.size) (hT.below be (hb1.mono hB)) hk1)
   have hin2:=aa hin.2
   replace hI1:=aa hI1
   replace hE:=aa hE
   replace hb1:=aa hb1
   replace ht:=aa ht
   have hc1:=ab hb1.out
   clear hcell hr hr0 he hs hT hel hes h0 h1 h2 hin hw1 hR hbr hle hk0
   generalize am a (l.take k)=M at*
   go_wp2_with fail
   refine hT1.out.mono ?_
   rintro _ w2 ⟨v2,rfl,hI2,hw2⟩
   have hz1:=hb1.out.size
   have hb2:=hb1.out.trans (hw2.mono hz1)
   obtain ⟨v3,w3,hr3,hI3,hw3⟩:=cL (hI1.out.below hw2 (Bm _) (Bj hB hz1)) hI2 hB hb2.size hk3 ‹_›
   have hb3:=hb2.trans hw3
   have hE3:=aa (hin2.out a A2 c2 w3 B (Bj hB hb3.size) (hE.out.below be (hb3.mono hB)) hk2)
   have hc3:=ab hb3
   replace hI3:=aa hI3
   replace hb3:=aa hb3
   clear hc1 hI1 hI2 hw2 hw3 hb2 hb1 hT1 hz1
   go_wp2_with fail
   refine hE3.out.mono ?_
   rintro _ w4 ⟨v4,rfl,hI4,hw4⟩
   have hz3:=hb3.out.size
   have hb4:=hb3.out.trans (hw4.mono hz3)
   obtain ⟨v5,w5,hr5,hI5,hw5⟩:=cL (hI3.out.below hw4 (Bm _) (Bj hB hz3)) hI4 hB hb4.size hk4 ‹_›
   have hb5:=aa (hb4.trans hw5)
   have hI5':=aa (show dq w5 w.heap.size B v5 (am a (l.take (k+1))) from by
    rw [ht.out]
    have:=hI5
    simp only [BK,List.singleton_append,BC] at this ⊢
    exact this)
   clear hc3 hI3 hI4 hI5 hw4 hw5 hb4 hb3 hE3 hz3 hk2 hk3 hk4
   go_wp2
   go_roundw
   case rel=>exact ⟨k+1,by omega,by go_num,hI5',hb5⟩
   case measure=>simp [intOf];omega
  ·have hR':=aa (show dq wr w.heap.size B _ (am a l) from by have:=hR.out;rwa [BB (by omega)] at this)
   go_wp2
   go_ret
   exact ⟨_,rfl,hR'.out,hbr.out⟩
theorem tM (s:St):ut s:=by
 induction s using St.ind with
 |h kind head name e thn els ih1 ih2=>exact ⟨ja thn ih1,ja els ih2⟩
theorem lE (l:List St):us l:=ja l fun x _=>tM x
end
end Go.Proofs.YtbbdhknagofghaaGreat

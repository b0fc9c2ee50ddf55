import Derived.Test.YtbbdhknagofghaaGreatTcp24
set_option linter.all false
set_option maxHeartbeats 16000000
set_option maxRecDepth 100000
open Go.Proofs.Tryz
namespace Go.Proofs.YtbbdhknagofghaaGreat
open _root_.Nat renaming lt_of_lt_of_le→Bg, le_trans→Bj, zero_le→Bo
open _root_.Go.RowKit.Below renaming refl→Bi
open _root_.List renaming getElem?_eq_getElem→Bk, getElem?_eq_some_iff→Bp, length_append→Bq, getElem_mem→Bv, all_eq_true→Bw, isEmpty_iff→Bx, length_cons→By, map_cons→BF, mem_cons→BI, mem_append→BL, getElem?_append_right→BN, getElem?_cons_succ→BP, mem_of_getElem?→BQ, mem_cons_of_mem→BT, getElem?_append_left→BU, mem_cons_self→BW, flatMap_cons→BZ
open _root_.Bool renaming and_eq_true→Bn
open _root_.Int renaming toNat_natCast→BM
open Go.RowKit
def eT (p:Pg):List It→Nat→Int→Int×Int
 | [],_,d=>(d,0)
 |x::l,i,d=>if bS (bh p x)=0 then eT p l (i+1) d else ((i:Int),bS (bh p x))
theorem gR (p:Pg) (d:Int):∀ (l:List It) (i:Nat),(∀ x∈l,bS (bh p x)=0)→eT p l i d=(d,0)
 | [],_,_=>rfl
 |x::l,i,h=>by
  rw [eT,if_pos (h x (by simp))]
  exact gR p d l (i+1) fun y hy=>h y (BT _ hy)
theorem gS (p:Pg) (d:Int):∀ (l:List It) (i k:Nat) (x:It),l[k]? =some x→(∀ (j:Nat) (y:It),j<k→l[j]? =some y→bS (bh p y)=0)→¬bS (bh p x)=0→eT p l i d=(((i+k:Nat):Int),bS (bh p x))
 | [],_,_,_,h,_,_=>by simp at h
 |y::l,i,0,x,h,_,hx=>by
  simp at h;subst h
  rw [eT,if_neg hx];rfl
 |y::l,i,k+1,x,h,h0,hx=>by
  rw [eT,if_pos (h0 0 y (by omega) rfl),gS p d l (i+1) k x (by simpa using h) (fun j z hj hz=>h0 (j+1) z (by omega) (by simpa using hz)) hx]
  rw [show i+1+k=i+(k+1) from by omega]
theorem jH.below {w W:World} {B:Nat} (A1 A2 A3 A4 A5 A6 A7:Option Addr) (p:Pg) (c1 c2 c3 c4 c5 c6 c7:Nat) (hP:bu w B A1 A2 A3 A4 A5 A6 A7 p) (h:Below B w W) (hc:jH w A5 p):jH W A5 p:=fun i hi g o A c hA hcell=>by
 obtain ⟨b,o',ecs,hA',hb,-⟩:=hP.tables.2 i _ (Bk hi)
 have hg:g<B:=by
  rw [hA'] at hA
  injection hA with hA
  injection hA with h1
  omega
 exact hc i hi g o A c hA (by rw [←hcell];exact (h.cell (p:=⟨g,o+i*5+1,none⟩) hg).symm)
theorem th (A1 A2 A3 A4 A5 A6 A7:Option Addr) (p:Pg) (c1 c2 c3 c4 c5 c6 c7:Nat) (B:Nat) (hm:bg p=true) (n0:Int) (items:List It) (w:World) (hB:B≤w.heap.size) (hP:bu w B A1 A2 A3 A4 A5 A6 A7 p) (hcap:jH w A5 p)
  (hC:∀ W,Below w.heap.size w W→Calls prog 17 #[.agg (aq p A1 A2 A3 A4 A5 A6 A7 c1 c2 c3 c4 c5 c6 c7)] W fun e W'=>e=.returned (.tuple #[.int .i64 n0,.int .i64 0])∧Below W.heap.size W W')
  (hI:∀ W,Below w.heap.size w W→Calls prog 18 #[.agg (aq p A1 A2 A3 A4 A5 A6 A7 c1 c2 c3 c4 c5 c6 c7)] W fun e W'=>(∃ A cap,e=.returned (.slice A items.length cap)∧Sl 17 oL W' W'.heap.size A items)∧Below W.heap.size W W')
  (hok:∀ (k:Nat) (x:It),items[k]? =some x→(∀ (j:Nat) (y:It),j<k→items[j]? =some y→bS (bh p y)=0)→pO p x):
  Calls prog 7 #[.agg (aq p A1 A2 A3 A4 A5 A6 A7 c1 c2 c3 c4 c5 c6 c7)] w fun e w'=>e=.returned (.tuple #[.int .i64 (eT p items 0 n0).1,.int .i64 (eT p items 0 n0).2])∧Below w.heap.size w w':=by
 unfold aq
 have hmf:∀ (fn:Fn) (first cap:Array Value) (w:World),(Instr.makeFunc fn first cap).run prog w=.ok (.func fn first cap) w:=fun _ _ _ _=>rfl
 obtain ⟨wu,hwu,hsu,hbu,hcu,-⟩:=al w (aq p A1 A2 A3 A4 A5 A6 A7 c1 c2 c3 c4 c5 c6 c7) 30
 obtain ⟨u0,u1,u2,u3,u4,u5,u6⟩:=aF hcu
 have hl1:w.heap.size<wu.heap.size:=by omega
 have hu:=aa hcu
 have hC1:=aa (hC wu hbu)
 replace hsu:=aa hsu
 clear hC hcu
 go_enter func7,ntmps7
 go_wp2_with (first|(go_at_call 18;with_reducible refine (hI2.out).mono ?_;rintro e w2 ⟨⟨A,cap,rfl,hS⟩,hb2⟩)|(go_at_call 17;refine hC1.out.mono ?_;rintro e w1 ⟨rfl,hb1⟩;have kb1:=ab hb1;have q1:=Bg hl1 hb1.size;have hI2:=aa (hI w1 (hbu.trans (hb1.mono (Nat.le_of_lt hl1))))))
 have hb12:=hb1.trans (hb2.mono hb1.size)
 have hbw:=hbu.trans (hb12.mono (Nat.le_of_lt hl1))
 have kb2:=ab hb12
 have q2:=Bg hl1 hb12.size
 have hP2:=hP.below (hbw.mono hB)
 have hB2:B≤w2.heap.size:=Bj hB hbw.size
 have hc2:=jH.below A1 A2 A3 A4 A5 A6 A7 p c1 c2 c3 c4 c5 c6 c7 hP (hbw.mono hB) hcap
 have hu2:=aa (fun i=>(hb12.cell (p:=⟨w.heap.size,i,none⟩) hl1).trans (hu.out i))
 have lS:=hS.len
 have hX0:=aa (fun (x:It) (hx:pO p x) (s0 s1 s2 s3 s4 s5 s6 s7 s8 s9 s10 s11 s12 s13:Value) (gb:Nat) (W:World) (hW:Below w2.heap.size w2 W) (h:oL w2 w2.heap.size [.int .u8 x.kind,.int .i64 x.a,.int .i64 x.b,s0,s1,s2,s3,s4,s5,s6,s7,s8,s9,s10,s11,s12,s13] x) (hxc:∀ i,W.cell? ⟨gb,i,none⟩=(#[.int .u8 x.kind,.int .i64 x.a,.int .i64 x.b,s0,s1,s2,s3,s4,s5,s6,s7,s8,s9,s10,s11,s12,s13]:Array Value)[i]?)=>
  ru A1 A2 A3 A4 A5 A6 A7 p c1 c2 c3 c4 c5 c6 c7 w2.heap.size hm x hx s0 s1 s2 s3 s4 s5 s6 s7 s8 s9 s10 s11 s12 s13 w.heap.size gb W hW.size ((hP2.more hB2).below hW) (jH.below A1 A2 A3 A4 A5 A6 A7 p c1 c2 c3 c4 c5 c6 c7 (hP2.more hB2) hW hc2) (dJ.keep h fun q hq=>hW.cell hq) (fun i=>(hW.cell (p:=⟨w.heap.size,i,none⟩) q2).trans (hu2.out i)) hxc)
 have hs0:=aa (Bi w2.heap.size w2)
 replace hS:=aa hS
 replace hbw:=aa hbw
 clear kb1 q1 hb1 hb2 hb12 hP hP2 hcap hc2 hI
 go_loopw [21] (fun q wr=>∃ k:Nat,k≤items.length∧q=.int .i64 k∧Hid (∀ (j:Nat) (y:It),j<k→items[j]? =some y→bS (bh p y)=0)∧Hid (Below w2.heap.size w2 wr)) (fun q _=>items.length-(intOf q).toNat)
 case atStart=>exact ⟨0,Bo _,rfl,aa (fun j y h=>absurd h (Nat.not_lt_zero _)),hs0⟩
 case round=>
  clear hs0
  obtain ⟨k,hk,rfl,ht,hbr⟩:=hrel
  have hzr:=hbr.out.size
  have hc:=ab hbr.out
  have r2:=Bg q2 hzr
  by_cases hlt:k<items.length
  ·obtain ⟨x,hxk⟩:∃ x,items[k]? =some x:=⟨_,Bk hlt⟩
   obtain ⟨g,o,ecs,hA,hb,hel,hcell,scs,hf,hst⟩:=hS.out.2 k _ hxk
   subst hA
   obtain ⟨xk,xa,xb,xs⟩:=x
   obtain ⟨sk,shead,sname,se,sthn,sels⟩:=xs
   have hst':=hst
   obtain ⟨es,SA,scap,SA',scap',rfl,-,-,-,hE,-,-⟩:=RS.inv hst'
   obtain ⟨op,lit,ehead,ename,hi,lo,args⟩:=se
   obtain ⟨Ae,ecap,rfl,-⟩:=RE.inv hE
   obtain ⟨x,hxx⟩:∃ x,x=(⟨xk,xa,xb,.mk sk shead sname (.mk op lit ehead ename hi lo args) sthn sels⟩:It):=⟨_,rfl⟩
   simp only at hf hst
   rw [←hxx] at hxk
   have hx0:=hok k _ hxk ht.out
   have hit:=aa (show oL w2 w2.heap.size [.int .u8 xk,.int .i64 xa,.int .i64 xb,.int .u8 sk,.string shead,.string sname,.int .u8 op,.int .i64 lit.1,.int .u64 lit.2.1,.int .u64 lit.2.2,.string ehead,.string ename,.int .i64 hi,.int .i64 lo,.slice Ae args.length ecap,.slice SA sthn.length scap,.slice SA' sels.length scap'] x from by rw [hxx];exact ⟨_,rfl,hst⟩)
   have hltz:(k:Int)<(items.length:Int):=by omega
   have hstp:=aa (gS p n0 items 0 k _ hxk ht.out)
   have hnx:∀ h:bS (bh p x)=0,∀ (j:Nat) (y:It),j<k+1→items[j]? =some y→bS (bh p y)=0:=fun h j y hj hy=>by
    by_cases e:j=k
    ·subst e
     rw [hxk] at hy
     injection hy with hy
     rw [←hy];exact h
    ·exact ht.out j y (by omega) hy
   replace hnx:=aa hnx
   subst hf
   obtain ⟨x0,x1,x2,x3,x4,x5,x6,x7,x8,x9,x10,x11,x12,x13,x14,x15,x16⟩:=sx hcell
   obtain ⟨wy,hwy,hzy,hby,hcy,-⟩:=al wr #[.int .u8 xk,.int .i64 xa,.int .i64 xb,.int .u8 sk,.string shead,.string sname,.int .u8 op,.int .i64 lit.1,.int .u64 lit.2.1,.int .u64 lit.2.2,.string ehead,.string ename,.int .i64 hi,.int .i64 lo,.slice Ae args.length ecap,.slice SA sthn.length scap,.slice SA' sels.length scap'] 49
   have hbX:=hbr.out.trans (hby.mono hzr)
   have hlt2:wr.heap.size<wy.heap.size:=by omega
   have hX:=aa (pi (some ⟨w.heap.size,0,none⟩) (some ⟨wr.heap.size,0,none⟩) (bh p x) wy (fun W hW=>by subst hxx;exact hX0.out _ hx0 (.int .u8 sk) (.string shead) (.string sname) (.int .u8 op) (.int .i64 lit.1) (.int .u64 lit.2.1) (.int .u64 lit.2.2) (.string ehead) (.string ename) (.int .i64 hi) (.int .i64 lo) (.slice Ae args.length ecap) (.slice SA sthn.length scap) (.slice SA' sels.length scap') wr.heap.size W (hbX.trans (hW.mono hbX.size)) hit.out (fun i=>(hW.cell (p:=⟨wr.heap.size,i,none⟩) hlt2).trans (hcy i))))
   replace hbX:=aa hbX
   clear hcell hel hst hx0 hit hby hcy hok hX0 hxk hzy
   generalize bS (bh p x)=en0 at hX hstp hnx
   by_cases h0:en0=0
   ·subst h0
    have hres:=aa (hnx.out rfl)
    clear hnx hstp
    go_wp2_with (go_at_call 19;refine hX.out.mono ?_;rintro e w4 ⟨rfl,hb4⟩)
    go_roundw
    case rel=>exact ⟨k+1,by omega,by go_num,hres,aa (hbX.out.trans (hb4.mono hbX.out.size))⟩
    case measure=>simp [intOf];omega
   ·have h0q:(en0 !=0)=true:=bne_iff_ne.2 h0
    have hres:=aa (hstp.out h0)
    clear hnx hstp
    go_wp2_with (go_at_call 19;refine hX.out.mono ?_;rintro e w4 ⟨rfl,hb4⟩)
    go_ret2
    exact ⟨by rw [hres.out];simp,hbw.out.trans ((hbX.out.trans (hb4.mono hbX.out.size)).mono hbw.out.size)⟩
  ·have hfull:=aa (gR p n0 items 0 (fun x hx=>by
    obtain ⟨j,hj,rfl⟩:=List.getElem_of_mem hx
    exact ht.out j _ (by omega) (Bk hj)))
   go_wp2
   go_ret2
   exact ⟨by first|(rw [hfull.out];done)|(rw [hfull.out];rfl)|simp [hfull.out],hbw.out.trans (hbr.out.mono hbw.out.size)⟩
theorem gT {p:Pg}:∀ (l:List It) (n:Nat),(bq p l n).2=0→(bq p l n).1=((n+l.length:Nat):Int)∧∀ x∈l,aH p x=0
 | [],n,_=>by simp [bq]
 |x::l,n,h=>by
  by_cases e:aH p x=0
  ·rw [bq,if_pos e] at h ⊢
   obtain ⟨h1,h2⟩:=gT l (n+1) h
   refine ⟨by rw [h1];simp;omega,fun y hy=> ?_⟩
   rcases BI.1 hy with rfl|hy
   ·exact e
   ·exact h2 y hy
  ·rw [bq,if_neg e] at h
   exact absurd h e
theorem lq {e f:Int} (h:aQ e f=0):e=0∧f=0:=by
 unfold aQ at h
 split at h<;>simp_all
theorem pP {b:Bool} {e:Int} (he:e≠0) (h:cF b e=0):b=false:=by
 cases b
 ·rfl
 ·exact absurd h he
mutual
def cQ:St→Nat
 | .mk _ _ _ _ thn els=>1+bE thn+bE els
def bE:List St→Nat
 | []=>0
 |s::l=>cQ s+bE l
end
theorem rx (a:Int) (s:St):(cO a s).length=cQ s:=by
 have key:∀ s:St,(cO a s).length=cQ s:=by
  intro s
  induction s using St.ind with
  |h kind head name e thn els ih1 ih2=>
   have g:∀ l:List St,(∀ x∈l,(cO a x).length=cQ x)→(am a l).length=bE l:=by
    intro l
    induction l with
    |nil=>intro _;rfl
    |cons x l ih=>intro h;simp only [am,bE,Bq,h x BW,ih fun y hy=>h y (BT _ hy)]
   simp only [cO,cQ,By,Bq,g thn ih1,g els ih2]
   omega
 exact key s
theorem dh (a:Int):∀ l:List St,(am a l).length=bE l
 | []=>rfl
 |x::l=>by simp only [am,bE,Bq,rx,dh a l]
def mS (p:Pg):Nat:=
 (p.headers.map fun h=>h.fields.length+1).sum+p.metas.length+(p.states.map fun s=>1+s.takes.length+1+s.cases_.length).sum+(p.actions.map fun a=>1+a.params.length+bE a.body).sum+
  (p.tables.map fun t=>1+t.keys.length+t.actions.length+1).sum+bE p.control+p.emit.length
theorem di {α:Type} {kind:Int} {g:Nat→α→List It} (f:α→Nat) (hg:∀ i a,(g i a).length+1=f a) (l:List α):(aX kind l g).length=(l.map f).sum:=by
 unfold aX
 generalize hk:(0:Nat)=k
 clear hk
 induction l generalizing k with
 |nil=>simp
 |cons a l ih=>simp only [List.zipIdx_cons,BZ,Bq,By,BF,List.sum_cons,hg,ih (k+1)]
theorem aj {kind:Int} {a n:Nat}:(aR kind a n).length=n:=by simp [aR]
theorem iF (p:Pg):(ao p).length=mS p:=by
 unfold ao aC aG aE bD bW cP
 simp only [Bq]
 rw [di (fun h:Hd=>h.fields.length+1) (by simp [aj]),di (fun _:Fd=>1) (by simp),di (fun s:Sa=>1+s.takes.length+1+s.cases_.length) (by simp [aj];omega),
  di (fun a:Ac=>1+a.params.length+bE a.body) (by simp [aj,dh];omega),di (fun t:Ta=>1+t.keys.length+t.actions.length+1) (by simp [aj];omega),dh,di (fun _:ByteArray=>1) (by simp)]
 have c1:∀ {α:Type} (l:List α),(l.map fun _=>1).sum=l.length:=fun l=>by induction l<;>simp_all<;>omega
 rw [c1,c1]
 unfold mS
 omega
theorem xI (s:St):∀ d:Nat,aM s d=true→d≤8→cQ s≤65 ^ (8-d):=by
 induction s using St.ind with
 |h kind head name e thn els ih1 ih2=>
  intro d hm hd
  have g:∀ l:List St,(∀ x∈l,∀ d:Nat,aM x d=true→d≤8→cQ x≤65 ^ (8-d))→d+1≤8→gG l (d+1)=true→bE l≤l.length*65 ^ (8-(d+1)):=by
   intro l
   induction l with
   |nil=>intro _ _ _;simp [bE]
   |cons x l ih=>
    intro h hd1 hml
    simp only [gG,Bn] at hml
    have h1:=h x BW (d+1) hml.1 hd1
    have h2:=ih (fun y hy=>h y (BT _ hy)) hd1 hml.2
    simp only [bE,By,Nat.add_mul]
    omega
  have key:∀ l:List St,(∀ x∈l,∀ d:Nat,aM x d=true→d≤8→cQ x≤65 ^ (8-d))→(l.isEmpty ||(decide (d+1≤8)&&decide (l.length≤32)&&gG l (d+1)))=true→2*bE l+1≤65 ^ (8-d):=by
   intro l hl hb
   cases l with
   |nil=>simp only [bE];exact Nat.one_le_pow _ _ (by omega)
   |cons x l=>
    simp only [List.isEmpty_cons,Bool.false_or,Bn,decide_eq_true_eq] at hb
    have h1:=g (x::l) hl hb.1.1 hb.2
    have h2:8-d=(8-(d+1))+1:=by omega
    rw [h2,Nat.pow_succ]
    have h3:1≤65 ^ (8-(d+1)):=Nat.one_le_pow _ _ (by omega)
    have h4:(x::l).length*65 ^ (8-(d+1))≤32*65 ^ (8-(d+1)):=Nat.mul_le_mul_right _ hb.1.2
    omega
  have none_:thn.isEmpty=true→els.isEmpty=true→cQ (.mk kind head name e thn els)≤65 ^ (8-d):=by
   intro h1 h2
   rw [Bx] at h1 h2
   subst h1 h2
   simp only [cQ,bE]
   exact Nat.one_le_pow _ _ (by omega)
  unfold aM at hm
  split at hm
  ·simp only [Bn] at hm;exact none_ hm.1.1.1.1 hm.1.1.1.2
  split at hm
  ·simp only [Bn] at hm
   have h1:=key thn ih1 hm.1.2
   have h2:=key els ih2 hm.2
   simp only [cQ]
   omega
  split at hm
  ·simp only [Bn] at hm;exact none_ hm.1.1.1.1 hm.1.1.1.2
  split at hm
  ·simp only [Bn] at hm;exact none_ hm.1.1.1.1 hm.1.1.1.2
  split at hm
  ·simp only [Bn] at hm;exact none_ hm.1.1.1.1 hm.1.1.1.2
  split at hm
  ·simp only [Bn] at hm;exact none_ hm.1.1.1.1 hm.1.1.1.2
  ·cases hm
theorem oM (l:List St) (h:aY l 1=true):bE l≤156871292500000:=by
 unfold aY at h
 cases l with
 |nil=>simp [bE]
 |cons x l=>
  simp only [List.isEmpty_cons,Bool.false_or,Bn,decide_eq_true_eq] at h
  have g:∀ l:List St,gG l 1=true→bE l≤l.length*65 ^ 7:=by
   intro l
   induction l with
   |nil=>intro _;simp [bE]
   |cons x l ih=>
    intro hl
    simp only [gG,Bn] at hl
    have h1:=xI x 1 hl.1 (by omega)
    have h2:=ih hl.2
    simp only [bE,By,Nat.add_mul]
    omega
  have h1:=g _ h.2
  have h4:(x::l).length*65 ^ 7≤156871292500000:=Nat.mul_le_mul_right _ h.1.2
  omega
theorem mT {α:Type} {f:α→Nat} {m:Nat}:∀ {l:List α},(∀ x∈l,f x≤m)→(l.map f).sum≤l.length*m
 | [],_=>by simp
 |x::l,h=>by
  have h1:=h x BW
  have h2:=mT (l:=l) fun y hy=>h y (BT _ hy)
  simp only [BF,List.sum_cons,By,Nat.add_mul]
  omega
theorem vB {p:Pg} (hm:bg p=true):mS p≤4611686018427387904:=by
 simp only [bg,qo,Bn,decide_eq_true_eq] at hm
 obtain ⟨⟨⟨⟨⟨⟨⟨⟨n1,n2,n3,n4,n5,n6,n7⟩,h1⟩,h2⟩,h3⟩,h4⟩,h5⟩,h6⟩,h7⟩:=hm
 have s1:(p.headers.map fun h=>h.fields.length+1).sum≤p.headers.length*17:=mT fun x hx=>by
  have:=Bw.1 h1 x hx
  simp only [iJ,Bn,decide_eq_true_eq] at this
  omega
 have s3:(p.states.map fun s=>1+s.takes.length+1+s.cases_.length).sum≤p.states.length*26:=mT fun x hx=>by
  have:=Bw.1 h3 x hx
  simp only [lT,Bn,decide_eq_true_eq] at this
  obtain ⟨⟨⟨_,t1⟩,_⟩,t2⟩:=this
  split at t2
  ·simp only [Bn,decide_eq_true_eq] at t2;omega
  ·simp only [Bn,Bx] at t2;rw [t2.2];simp;omega
 have s4:(p.actions.map fun a=>1+a.params.length+bE a.body).sum≤p.actions.length*(9+156871292500000):=mT fun x hx=>by
  have:=Bw.1 h4 x hx
  simp only [nB,Bn,decide_eq_true_eq] at this
  have:=oM _ this.2
  omega
 have s5:(p.tables.map fun t=>1+t.keys.length+t.actions.length+1).sum≤p.tables.length*22:=mT fun x hx=>by
  have:=Bw.1 h5 x hx
  simp only [ob,Bn,decide_eq_true_eq] at this
  omega
 have s6:=oM _ h6
 have t1:p.headers.length*17≤8*17:=Nat.mul_le_mul_right _ n1
 have t3:p.states.length*26≤16*26:=Nat.mul_le_mul_right _ n4
 have t4:p.actions.length*(9+156871292500000)≤16*(9+156871292500000):=Nat.mul_le_mul_right _ n5
 have t5:p.tables.length*22≤8*22:=Nat.mul_le_mul_right _ n6
 unfold mS
 omega
theorem ti {l:List Fd} {i n:Int} (h:cg l i=.error n):n≠0:=by
 unfold cg at h
 split at h
 ·injection h with h;omega
 ·cases h
theorem vC {p:Pg} {act op:Int} {lit:Lt} {head name:ByteArray} {n:Int} (h:dP p act op lit head name=.error n):n≠0:=by
 unfold dP at h
 repeat' split at h
 all_goals first
  |(cases h;done)
  |exact ti h
  |(injection h with h;omega)
theorem xJ {op hi lo:Int} {t:Ty} {n:Int} (h:fX op hi lo t=.error n):n≠0:=by
 unfold fX at h
 repeat' split at h
 all_goals first
  |(cases h;done)
  |(injection h with h;omega)
theorem vD {t:Ty} {n:Int} (h:gv t=.error n):n≠0:=by
 unfold gv at h
 repeat' split at h
 all_goals first
  |(cases h;done)
  |(injection h with h;omega)
theorem oN {a b:Ex} {s t:Ty} {n:Int} (h:dy a b s t=.error n):n≠0:=by
 unfold dy at h
 repeat' split at h
 all_goals first
  |(cases h;done)
  |(injection h with h;omega)
theorem vE {op:Int} {a b:Ex} {s t:Ty} {n:Int} (h:cI op a b s t=.error n):n≠0:=by
 unfold cI at h
 split at h
 ·repeat' split at h
  all_goals first
   |(cases h;done)
   |(injection h with h;omega)
 ·split at h
  ·split at h
   ·cases h
   ·injection h with h;omega
  ·split at h
   ·rename_i m hj
    injection h with h
    subst h
    exact oN hj
   ·split at h<;>cases h
theorem el {p:Pg} (act:Int) (e:Ex):∀ n,bI p act e=.error n→n≠0:=by
 induction e using Ex.ind with
 |h op lit head name hi lo args ih=>
  intro n h
  match args,ih,h with
  | [],_,h=>exact vC (by simpa only [bI] using h)
  | [a],ih,h=>
   simp only [bI] at h
   split at h
   ·rename_i m hm
    injection h with h;subst h
    exact ih a (by simp) _ hm
   ·exact xJ h
  |a::b::l,ih,h=>
   simp only [bI] at h
   split at h
   ·rename_i m hm
    injection h with h;subst h
    exact ih a (by simp) _ hm
   ·split at h
    ·exact vD h
    ·split at h
     ·rename_i m hm
      injection h with h;subst h
      exact ih b (by simp) _ hm
     ·exact vE h
theorem mU {p:Pg} {e:Ex} {n:Int} (h:dc p e=.error n):n≠0:=by
 unfold dc rh at h
 split at h
 ·rename_i m hm
  injection h with h;subst h
  exact el _ _ _ hm
 ·repeat' split at h
  all_goals first
   |(cases h;done)
   |(injection h with h;omega)
theorem mV {α:Type} {f:α→Rs Unit} (hf:∀ a n,f a=.error n→n≠0):∀ (l:List α) (n:Int),aD f l=.error n→n≠0
 | [],n,h=>by cases h
 |a::l,n,h=>by
  simp only [aD] at h
  split at h
  ·rename_i m hm
   injection h with h;subst h
   exact hf _ _ hm
  ·exact mV hf l n h
theorem zk {r:Rs Unit} (hr:∀ n,r=.error n→n≠0) (h:bS r=0):r=.ok ():=by
 cases r with
 |error n=>exact absurd h (hr n rfl)
 |ok u=>rfl
theorem tj (a:Int) (s:St):∀ d,aM s d=true→∀ x∈cO a s,∃ d',aM x.s d'=true:=by
 induction s using St.ind with
 |h kind head name e thn els ih1 ih2=>
  intro d hd x hx
  have g:∀ (l:List St) (d1:Nat),(∀ y∈l,∀ d,aM y d=true→∀ x∈cO a y,∃ d',aM x.s d'=true)→gG l d1=true→∀ x∈am a l,∃ d',aM x.s d'=true:=by
   intro l d1 ih hl x hx
   rw [cf,List.mem_flatMap] at hx
   obtain ⟨y,hy,hx⟩:=hx
   rw [gH,Bw] at hl
   exact ih y hy _ (hl y hy) x hx
  have hb:(thn= []∨gG thn (d+1)=true)∧(els= []∨gG els (d+1)=true):=by
   rw [aM] at hd
   by_cases h2:kind=2
   ·subst h2
    simp only [show ¬((2:Int)=1) from by decide,if_false,if_true,Bn,Bool.or_eq_true,Bx] at hd
    exact ⟨hd.1.2.imp id fun h=>h.2,hd.2.imp id fun h=>h.2⟩
   ·rw [if_neg h2] at hd
    repeat' split at hd
    all_goals first
     |(cases hd;done)
     |(simp only [Bn,Bx] at hd;exact ⟨.inl hd.1.1.1.1.1,.inl hd.1.1.1.1.2⟩)
     |(simp only [Bn,Bx] at hd;exact ⟨.inl hd.1.1.1.1,.inl hd.1.1.1.2⟩)
     |(simp only [Bn,Bx] at hd;exact ⟨.inl hd.1.1.1,.inl hd.1.1.2⟩)
  simp only [cO,BI,BL] at hx
  rcases hx with rfl|hx|hx
  ·exact ⟨d,hd⟩
  ·rcases hb.1 with rfl|h
   ·simp [am] at hx
   ·exact g thn _ ih1 h x hx
  ·rcases hb.2 with rfl|h
   ·simp [am] at hx
   ·exact g els _ ih2 h x hx
theorem mW (a:Int) (l:List St) (h:aY l 1=true):∀ x∈am a l,∃ d,aM x.s d=true:=by
 intro x hx
 rw [cf,List.mem_flatMap] at hx
 obtain ⟨y,hy,hx⟩:=hx
 simp only [aY,Bool.or_eq_true,Bn,Bx] at h
 rcases h with rfl|h
 ·simp at hy
 ·have:=h.2
  rw [gH,Bw] at this
  exact tj a y _ (this y hy) x hx
theorem xK {p:Pg} (hm:bg p=true):∀ x∈ao p,x.kind=10→∃ d,aM x.s d=true:=by
 simp only [bg,Bn] at hm
 obtain ⟨⟨⟨⟨⟨⟨⟨_,_⟩,_⟩,_⟩,hac⟩,_⟩,hct⟩,_⟩:=hm
 intro x hx hk
 simp only [ao,aC,aG,aE,bD,bW,cP,BL] at hx
 rcases hx with hx|hx|hx|hx|hx|hx|hx
 ·obtain ⟨i,f,hi,rfl|hx⟩:=cq hx
  ·simp at hk
  ·obtain ⟨j,hj,rfl⟩:=bM hx;simp at hk
 ·obtain ⟨i,f,hi,rfl|hx⟩:=cq hx
  ·simp at hk
  ·simp at hx
 ·obtain ⟨i,f,hi,rfl|hx⟩:=cq hx
  ·simp at hk
  ·rw [BL,BI] at hx
   rcases hx with hx|rfl|hx
   ·obtain ⟨j,hj,rfl⟩:=bM hx;simp at hk
   ·simp at hk
   ·obtain ⟨j,hj,rfl⟩:=bM hx;simp at hk
 ·obtain ⟨i,f,hi,rfl|hx⟩:=cq hx
  ·simp at hk
  ·rcases BL.1 hx with hx|hx
   ·obtain ⟨j,hj,rfl⟩:=bM hx;simp at hk
   ·have:=Bw.1 hac f (BQ hi)
    simp only [nB,Bn] at this
    exact mW _ _ this.2 x hx
 ·obtain ⟨i,f,hi,rfl|hx⟩:=cq hx
  ·simp at hk
  ·rw [BL,BL,List.mem_singleton] at hx
   rcases hx with hx|hx|rfl
   ·obtain ⟨j,hj,rfl⟩:=bM hx;simp at hk
   ·obtain ⟨j,hj,rfl⟩:=bM hx;simp at hk
   ·simp at hk
 ·exact mW _ _ hct x hx
 ·obtain ⟨i,f,hi,rfl|hx⟩:=cq hx
  ·simp at hk
  ·simp at hx
def jI (l:List It):Prop:=∀ (k:Nat) (x:It),l[k]? =some x→x.kind=7→∃ j,j<k∧l[j]? =some ⟨6,x.a,0,de⟩
theorem gh {l:List It} (h:∀ x∈l,x.kind≠7):jI l:=fun _ x hx h7=>absurd h7 (h x (BQ hx))
theorem dj {l m:List It} (hl:jI l) (hm:jI m):jI (l++m):=by
 intro k x hx h7
 by_cases hk:k<l.length
 ·rw [BU hk] at hx
  obtain ⟨j,hj,h⟩:=hl k x hx h7
  exact ⟨j,hj,by rw [BU (by omega)];exact h⟩
 ·rw [BN (by omega)] at hx
  obtain ⟨j,hj,h⟩:=hm _ x hx h7
  exact ⟨l.length+j,by omega,by rw [BN (by omega),show l.length+j-l.length=j from by omega];exact h⟩
theorem du {α:Type} {f:α→List It}:∀ {l:List α},(∀ x∈l,jI (f x))→jI (l.flatMap f)
 | [],_=>fun k x hx=>by simp at hx
 |a::l,h=>by
  rw [BZ]
  exact dj (h a (by simp)) (du fun x hx=>h x (BT _ hx))
theorem eU {kind:Int} {a n:Nat} (h:kind≠7):∀ x∈aR kind a n,x.kind≠7:=fun x hx=>by
 obtain ⟨j,-,rfl⟩:=bM hx
 exact h
theorem mX (a:Int) (l:List St):∀ x∈am a l,x.kind≠7:=fun x hx=>by
 obtain ⟨st,rfl⟩:=iZ _ _ x hx
 exact show (10:Int)≠7 from by decide
theorem ry (i n m:Nat):jI (⟨4,(i:Int),0,de⟩::(aR 5 i n++(⟨6,(i:Int),0,de⟩::aR 7 i m))):=by
 rw [show (⟨4,(i:Int),0,de⟩::(aR 5 i n++(⟨6,(i:Int),0,de⟩::aR 7 i m)):List It)= [⟨4,(i:Int),0,de⟩]++(aR 5 i n++(⟨6,(i:Int),0,de⟩::aR 7 i m)) from rfl]
 refine dj (gh fun x hx=>by rw [List.mem_singleton] at hx;subst hx;exact show (4:Int)≠7 from by decide) (dj (gh (eU (by decide))) ?_)
 intro k x hx h7
 cases k with
 |zero=>simp at hx;subst hx;simp at h7
 |succ k=>
  rw [BP] at hx
  obtain ⟨j,-,rfl⟩:=bM (BQ hx)
  exact ⟨0,by omega,rfl⟩
theorem rz (p:Pg):jI (ao p):=by
 have one:∀ {kind:Int} {l:List It} {a:Int},kind≠7→(∀ x∈l,x.kind≠7)→jI (⟨kind,a,0,de⟩::l):=fun h1 h2=>gh fun x hx=>by
  rcases BI.1 hx with rfl|hx
  ·exact h1
  ·exact h2 x hx
 refine dj (du fun x _=>one (by decide) (eU (by decide))) (dj (du fun x _=>one (by decide) (by simp)) (dj (du fun x _=>ry _ _ _) (dj (du fun x _=>one (by decide) ?_) (dj (du fun x _=>one (by decide) ?_) (dj (gh (mX _ _)) (du fun x _=>one (by decide) (by simp)))))))
 ·intro y hy
  rcases BL.1 hy with hy|hy
  ·exact eU (by decide) y hy
  ·exact mX _ _ y hy
 ·intro y hy
  rw [BL,BL,List.mem_singleton] at hy
  rcases hy with hy|hy|rfl
  ·exact eU (by decide) y hy
  ·exact eU (by decide) y hy
  ·exact show (14:Int)≠7 from by decide
theorem mY {p:Pg} (hm:bg p=true) {i:Nat} {f:Sa} (hi:p.states[i]? =some f):(∀ e∈f.keys,aT e=true)∧∀ c∈f.cases_,c.sets.length≤f.keys.length:=by
 simp only [bg,Bn] at hm
 obtain ⟨⟨⟨⟨⟨⟨⟨_,_⟩,_⟩,hst⟩,_⟩,_⟩,_⟩,_⟩:=hm
 have:=Bw.1 hst f (BQ hi)
 unfold lT at this
 rw [Bn] at this
 have h:=this.2
 split at h
 ·simp only [Bn,Bw] at h
  refine ⟨fun e he=> ?_,fun c hc=> ?_⟩
  ·have:=h.1.2 e he
   simp only [cj,Bn] at this
   exact this.2
  ·have:=h.2 c hc
   simp only [ua,Bn,decide_eq_true_eq] at this
   have h2:=this.1.2
   split at h2<;>omega
 ·simp only [Bn,Bx] at h
  rw [h.1.2,h.2]
  exact ⟨by simp,by simp⟩
theorem tk {p:Pg} (hm:bg p=true):∀ x∈ao p,aH p x=0→(x.kind=10→∃ d,aM x.s d=true)→(x.kind=7→∀ (i:Nat) (f:Sa),x.a=(i:Int)→p.states[i]? =some f→aD (dc p) f.keys=.ok ())→pO p x:=by
 have no:∀ {k:Int} {a b:Int} {s:St},k≠6→k≠7→k≠10→k≠12→k≠14→pO p ⟨k,a,b,s⟩:=fun h6 h7 h10 h12 h14=>⟨fun h=>absurd h h6,fun h=>absurd h h7,fun h=>absurd h h10,fun h=>absurd h h12,fun h=>absurd h h14⟩
 refine i9 ?_ ?_ ?_ ?_ ?_ ?_ ?_ ?_ ?_ ?_ ?_ ?_ ?_ ?_ ?_
 rotate_right
 rotate_right
 focus
  intro i f hi hc _ _
  obtain ⟨hl,hf⟩:=Bp.1 hi
  refine ⟨fun h=>absurd h (show ¬((14:Int)=6) by decide),fun h=>absurd h (show ¬((14:Int)=7) by decide),fun h=>absurd h (show ¬((14:Int)=10) by decide),fun h=>absurd h (show ¬((14:Int)=12) by decide),fun _=> ?_⟩
  have hc':eP p f=0:=by simpa [aH,hi] using hc
  unfold eP at hc'
  split at hc'
  ·split at hc'
   ·omega
   ·rename_i hn
    obtain ⟨k,hk,he⟩:=dB (l:=p.actions.map Ac.name) (a:=f.dname) hn
    have hk2:k<p.actions.length:=by simpa using hk
    have hke:bz p f.dname=(k:Int):=he
    rw [hke,BM,Bk hk2] at hc'
    obtain ⟨e1,e2⟩:=lq hc'
    have d1:¬((f.dargs.length:Int)<((p.actions[k].params.length:Nat):Int)):=decide_eq_false_iff_not.1 (pP (by decide) e1)
    have d2:¬(((p.actions[k].params.length:Nat):Int)<(f.dargs.length:Int)):=decide_eq_false_iff_not.1 (pP (by decide) e2)
    exact ⟨i,hl,k,hk2,rfl,by rw [hf];exact hke,by rw [hf];omega⟩
  ·omega
 rotate_right
 rotate_right
 focus
  intro i j f g hi hj _ _ _
  obtain ⟨hl,hf⟩:=Bp.1 hi
  have hm':=hm
  simp only [bg,Bn] at hm'
  have ht:=Bw.1 hm'.1.1.2 f (BQ hi)
  simp only [ob,Bn,Bw] at ht
  have hk:=ht.1.1.1.1.1.2 g (BQ hj)
  simp only [sB,cj,Bn] at hk
  subst hf
  obtain ⟨hl2,hg⟩:=Bp.1 hj
  exact ⟨fun h=>absurd h (show ¬((12:Int)=6) by decide),fun h=>absurd h (show ¬((12:Int)=7) by decide),fun h=>absurd h (show ¬((12:Int)=10) by decide),fun _=>⟨i,hl,j,hl2,rfl,rfl,by rw [hg];exact hk.1.2⟩,fun h=>absurd h (show ¬((12:Int)=14) by decide)⟩
 rotate_right
 rotate_right
 focus
  intro a st hc h10 _
  obtain ⟨d,hd⟩:=h10 rfl
  refine ⟨fun h=>absurd h (show ¬((10:Int)=6) by decide),fun h=>absurd h (show ¬((10:Int)=7) by decide),fun _=> ?_,fun h=>absurd h (show ¬((10:Int)=12) by decide),fun h=>absurd h (show ¬((10:Int)=14) by decide)⟩
  rintro kind head name e thn els rfl
  rw [aM] at hd
  refine ⟨fun hk=> ?_,fun hk=> ?_⟩
  ·rcases hk with rfl|rfl|rfl
   ·simp [cj] at hd;exact hd.2.2
   ·simp [cj] at hd;exact hd.1.1.2.2
   ·simp [cj] at hd;exact hd.2.2
  ·subst hk
   simp only [aH,eO] at hc
   simp only [show ¬((10:Int)=1) by decide,show ¬((10:Int)=2) by decide,show ¬((10:Int)=3) by decide,show ¬((10:Int)=4) by decide,show ¬((10:Int)=5) by decide,show ¬((10:Int)=6) by decide,show ¬((10:Int)=7) by decide,show ¬((10:Int)=8) by decide,show ¬((10:Int)=9) by decide,show ¬((1:Int)=3) by decide,show ¬((1:Int)=6∨(1:Int)=7) by decide,show ¬((1:Int)=4) by decide,if_true,if_false] at hc
   have h1:=pP (by decide) (lq hc).1
   unfold rg
   split
   ·rename_i h;rw [if_pos h,decide_eq_false_iff_not] at h1;omega
   ·rename_i h;rw [if_neg h,decide_eq_false_iff_not] at h1;omega
 rotate_right
 rotate_right
 rotate_right
 focus
  intro i j f g hi hj _ _ h7
  obtain ⟨hl,hf⟩:=Bp.1 hi
  have hk:=h7 rfl i f rfl hi
  subst hf
  obtain ⟨hl2,hg⟩:=Bp.1 hj
  exact ⟨fun h=>absurd h (show ¬((7:Int)=6) by decide),fun _=>⟨i,hl,j,hl2,rfl,rfl,(mY hm hi).1,oI hk,(mY hm hi).2 _ (Bv hl2)⟩,fun h=>absurd h (show ¬((7:Int)=10) by decide),fun h=>absurd h (show ¬((7:Int)=12) by decide),fun h=>absurd h (show ¬((7:Int)=14) by decide)⟩
 rotate_right
 focus
  intro i f hi _ _ _
  obtain ⟨hl,hf⟩:=Bp.1 hi
  exact ⟨fun _=>⟨i,hl,rfl,by rw [hf];exact (mY hm hi).1⟩,fun h=>absurd h (show ¬((6:Int)=7) by decide),fun h=>absurd h (show ¬((6:Int)=10) by decide),fun h=>absurd h (show ¬((6:Int)=12) by decide),fun h=>absurd h (show ¬((6:Int)=14) by decide)⟩
 all_goals
  intros;exact no (by decide) (by decide) (by decide) (by decide) (by decide)
theorem rA {p:Pg} (hm:bg p=true) (hc:∀ x∈ao p,aH p x=0) (k:Nat) (x:It) (hx:(ao p)[k]? =some x) (ha:∀ (j:Nat) (y:It),j<k→(ao p)[j]? =some y→bS (bh p y)=0):pO p x:=by
 have hmem:=BQ hx
 refine tk hm x hmem (hc x hmem) (xK hm x hmem) fun h7 i f hi hf=> ?_
 obtain ⟨j,hj,hy⟩:=rz p k x hx h7
 have h:=ha j _ hj hy
 rw [show bh p ⟨6,x.a,0,de⟩=aD (dc p) f.keys from by simp [bh,hi,hf]] at h
 exact zk (mV (fun a n h=>mU h) f.keys) h
end Go.Proofs.YtbbdhknagofghaaGreat

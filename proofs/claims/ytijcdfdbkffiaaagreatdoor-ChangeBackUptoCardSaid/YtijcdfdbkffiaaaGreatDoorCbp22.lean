import Derived.Test.YtijcdfdbkffiaaaGreatDoorCbp21
import Derived.Deep.Upon
set_option linter.all false
set_option maxHeartbeats 4000000
set_option maxRecDepth 100000
open Go.Proofs.Tryz
namespace Go.Proofs.YtijcdfdbkffiaaaGreatDoor
open _root_.Nat renaming lt_of_lt_of_le→Hr, le_refl→Ht, le_trans→Hw, zero_le→Hz, zero_add→H3
open _root_.Go.RowKit.Below renaming refl→Hs
open _root_.List renaming getElem?_eq_getElem→HA, length_append→HM, length_cons→HN, mem_append→HZ, length_map→H4, replicate→H8, flatMap_cons→Ia, length_pos_iff→Ij
open Go.RowKit
theorem rQ {α:Type} {f:α→List Value} {e t:TypeId} {k bytes:Nat} {z:Value} (ht:prog.underlying t=some (.slice e)) (hi:(prog.info? e).map (fun i=>(i.zero,i.size,i.bytes))=some (some z,k,bytes)) (hzc:z.cells.size=k) (hk0:0<k) (hf:∀ x,(f x).length=k)
  {W:World} {base:Nat} {v:Value} {l:List α} (xs:List α) (h1:∀ x∈xs,∀ u∈f x,u.oneCell'=true) (hd:W.ownsRow base e k v l.length (l.flatMap f)) {A:Option Addr} {c:Nat} (hx:∀ j u,(xs.flatMap f)[j]? =some u→∃ b o,A=some ⟨b,o,none⟩∧W.cell? ⟨b,o+j,none⟩=some u)
  (hb:base≤W.heap.size) (hz:l.length+xs.length<100000) (hby:bytes≤1000):
  ∃ v' w',(eh #[t,t] t #[v,.slice A xs.length c]).run prog W=.ok v' w'∧w'.ownsRow base e k v' (l++xs).length ((l++xs).flatMap f)∧W.grownBy w' v.ownBlock∧Below base W w'∧(v'.ownBlock=v.ownBlock∨v'.ownBlock=some W.heap.size):=by
 obtain ⟨ii,hii,hzi0,hzi1,hzi2⟩:=info_parts hi
 have hlx:∀ ys:List α,(ys.flatMap f).length=ys.length*k:=fun ys=>by
  induction ys with
  |nil=>simp
  |cons y r ih=>rw [Ia,HM,ih,hf,HN,Nat.add_mul];omega
 by_cases h0:xs= []
 ·subst h0
  have hgr:W.grownBy W v.ownBlock:=⟨rfl,rfl,rfl,Ht _,fun _ _ _=>rfl⟩
  refine ⟨v,W,?_,by simpa using hd,hgr,Hs _ _,.inl rfl⟩
  obtain ⟨A1,cap,rfl⟩:=aR hd
  have hle:l.length≤cap:=by
   rcases hd.2 with ⟨h,h'⟩|⟨g,cap',cur,h,-,-,h',-⟩
   ·omega
   ·injection h with e1 e2 e3;omega
  have hs:Src prog ii.size t (.slice A 0 c) 0 [] W:=by
   cases A with
   |none=>exact Src.ofNil W ht c
   |some a=>exact Src.ofSlice W ht a 0 c [] (by simp) (fun j u hu=>by simp at hu) (fun u hu=>by simp at hu)
  have hr:=run_append_nothing W t t t e ii ht hii A1 l.length cap hle _ hs
  exact hr
 ·have hpos:0<(xs.flatMap f).length:=by
   rw [hlx]
   exact Nat.mul_pos (Ij.2 h0) hk0
  obtain ⟨b,o,rfl,-⟩:=hx 0 _ (HA hpos)
  have hadd:∀ j,(⟨b,o,none⟩:Addr).add j=⟨b,o+j,none⟩:=fun j=>eW b o j
  obtain ⟨v',w',hrun,h2,h3,_,h5⟩:=run_append_own_at (P:=prog) W base t t e ii z k bytes ht hii hzi0 hzi1 hzi2 hzc hk0 v l.length _ hd ⟨b,o,none⟩ xs.length c (xs.flatMap f) (hlx xs) (fun j u hu=>by
   obtain ⟨b',o',e1,e2⟩:=hx j u hu
   obtain ⟨q1,q2,-⟩:=Addr.mk.inj (Option.some.inj e1)
   subst q1 q2
   rw [hadd]
   exact e2) (fun u hu=>by
   obtain ⟨x,hx,hu⟩:=List.mem_flatMap.1 hu
   exact h1 x hx u hu) (by simp [maxLen];omega) (by have:=Nat.mul_le_mul (show l.length+xs.length≤100000 by omega) hby;omega) hb
  exact ⟨v',w',hrun,by simpa using h2,h3,(Hs _ _).grown h3 hb (fun g e=>(hd.lt g e).1),h5⟩
def cq (x:bn×Value×Value):List Value:= [.int .u8 x.1.kind,.int .i64 x.1.sw,.int .i64 x.1.pos,.int .i64 x.1.e.tab,x.2.1,.int .i64 x.1.e.len,.int .i64 x.1.e.prio,.int .i64 x.1.e.run.act,x.2.2]
theorem oF:(prog.info? 51).map (fun i=>(i.zero,i.size,i.bytes))=some (some (.agg z9),9,104):=by kernel_rfl
def Ce (w:World) (B:Nat) (x:bn×Value×Value):Prop:=iG w B (x.1.e,x.2.1,x.2.2)
theorem Ce.one {w:World} {B:Nat} {x:bn×Value×Value} (h:Ce w B x):∀ u∈cq x,u.oneCell'=true:=fun u hu=>by
 obtain ⟨⟨A,c,e1,-⟩,A',c',e2,-⟩:=h
 simp only at e1 e2
 simp [cq] at hu
 rw [e1,e2] at hu
 rcases hu with rfl|rfl|rfl|rfl|rfl|rfl|rfl|rfl|rfl<;>rfl
def iC (w:World) (base B:Nat) (v:Value) (l:List bn):Prop:=∃ ps:List (bn×Value×Value),ps.map (·.1)=l∧w.ownsRow base 51 9 v ps.length (ps.flatMap cq)∧∀ x∈ps,Ce w B x
theorem iC.nil_ (w:World) (base B:Nat):iC w base B (.slice none 0 0) []:=⟨[],rfl,World.ownsRow_nil _ _ _ _,fun x hx=>by simp at hx⟩
theorem iC.form {w:World} {base B:Nat} {v:Value} {l:List bn} (h:iC w base B v l):∃ A c,v=.slice A l.length c:=by
 obtain ⟨ps,rfl,h1,-⟩:=h
 obtain ⟨A,c,e⟩:=aR h1
 exact ⟨A,c,by rw [e,H4]⟩
theorem Ce.chg {w:World} {B:Nat} {x:bn×Value×Value} (h:Ce w B x):nz w B (cq x) x.1:=by
 obtain ⟨⟨A,c,e1,h1⟩,A',c',e2,h2⟩:=h
 simp only at e1 e2 h1 h2
 exact ⟨A,c,A',c',by unfold cq;rw [e1,e2],h1,h2⟩
theorem iC.sl {w:World} {base B:Nat} {v:Value} {l:List bn} (h:iC w base B v l) (hB:B≤w.heap.size):∃ A c,v=.slice A l.length c∧Sl 9 nz w w.heap.size A l:=by
 obtain ⟨ps,rfl,h1,h2⟩:=h
 obtain ⟨A,c,rfl,hS⟩:=fK (R:=fun w B cs (x:bn×Value×Value)=>nz w B cs x.1) (f:=cq) (fun _=>rfl) (fun x hx=>(show Ce w w.heap.size x from (h2 x hx).more hB).chg) h1
 refine ⟨A,c,by rw [H4],by rw [H4];exact hS.1,fun i x hx=> ?_⟩
 rw [List.getElem?_map] at hx
 cases hp:ps[i]? with
 |none=>rw [hp] at hx;cases hx
 |some y=>
  rw [hp] at hx
  injection hx with hx
  subst hx
  exact hS.2 i y hp
theorem iC.move {w w':World} {base B:Nat} {v:Value} {l:List bn} (h:iC w base B v l) (hk:∀ a:Addr,a.block<B→w'.cell? a=w.cell? a) (hb:∀ b,v.ownBlock=some b→w'.heap[b]? =w.heap[b]?):iC w' base B v l:=by
 obtain ⟨ps,h0,h1,h2⟩:=h
 refine ⟨ps,h0,⟨h1.1,?_⟩,fun x hx=>(h2 x hx).keep hk⟩
 rcases h1.2 with h|⟨b,cap,cur,rfl,g1,g2,r⟩
 ·exact .inl h
 ·exact .inr ⟨b,cap,cur,rfl,g1,(hb b rfl).trans g2,r⟩
theorem iC.lt {w:World} {base B:Nat} {v:Value} {l:List bn} (h:iC w base B v l) (b:Nat) (hb:v.ownBlock=some b):base≤b∧b<w.heap.size:=by
 obtain ⟨ps,-,h1,-⟩:=h
 exact h1.lt b hb
theorem iC.below {w w':World} {base B:Nat} {v:Value} {l:List bn} (h:iC w base B v l) (hb:Below w.heap.size w w') (hB:B≤w.heap.size):iC w' base B v l:=
 h.move (fun a ha=>hb.cell (Hr ha hB)) fun b e=>hb.block b (h.lt b e).2
theorem iC.typ {w:World} {base B:Nat} {v:Value} {l:List bn} (h:iC w base B v l) (b:Nat) (hb:v.ownBlock=some b):∃ C,w.heap[b]? =some (.cells C 51 (0,0)):=by
 obtain ⟨ps,-,h1,-⟩:=h
 rcases h1.2 with ⟨rfl,-⟩|⟨b',cap,cur,rfl,-,g2,-⟩
 ·cases hb
 ·injection hb with hb;subst hb;exact ⟨_,g2⟩
theorem pE.typ {w:World} {base B:Nat} {v:Value} {l:List aA} (h:pE w base B v l) (b:Nat) (hb:v.ownBlock=some b):∃ C,w.heap[b]? =some (.cells C 49 (0,0)):=by
 obtain ⟨ps,-,h1,-⟩:=h
 rcases h1.2 with ⟨rfl,-⟩|⟨b',cap,cur,rfl,-,g2,-⟩
 ·cases hb
 ·injection hb with hb;subst hb;exact ⟨_,g2⟩
theorem bC.aside {w w':World} {base B og:Nat} {vs:List Value} {out:List (List aA)} {g:Option Nat} (h:bC w base B og vs out) (hl:∀ a:Addr,a.block<B→w'.cell? a=w.cell? a) (hh:∀ k,k<w.heap.size→g≠some k→w'.heap[k]? =w.heap[k]?)
  (hg:∀ b,g=some b→∃ C,w.heap[b]? =some (.cells C 51 (0,0))):bC w' base B og vs out:=by
 have ne:∀ k C t,w.heap[k]? =some (.cells C t (0,0))→t≠51→g≠some k:=fun k C t hk ht e=>by
  obtain ⟨C',hC⟩:=hg k e
  rw [hk] at hC
  injection hC with hC
  injection hC with e1 e2
  exact ht e2
 refine ⟨(hh og h.lt (ne og _ _ h.bx (by decide))).trans h.bx,h.ob,h.bb,h.len,fun i v l a b=>(h.row i v l a b).move hl fun k hk=> ?_,h.ne,h.no⟩
 obtain ⟨C,hC⟩:=(h.row i v l a b).typ k hk
 exact hh k (aN hC) (ne k _ _ hC (by decide))
theorem tZ {W:World} {base B:Nat} {v:Value} {l:List bn} (x:bn×Value×Value) (hx:Ce W B x) (hd:iC W base B v l) (hb:base≤W.heap.size) (hBb:B≤base) (hz:l.length<1000):
  ∃ v' w',(eh #[35,35] 35 #[v,.slice (some ⟨W.heap.size,0,none⟩) 1 1]).run prog (W.alloc (.cells (cq x).toArray 51))=.ok v' w'∧iC w' base B v' (l++ [x.1])∧Below base W w'∧(∀ k,k<W.heap.size→v.ownBlock≠some k→w'.heap[k]? =W.heap[k]?):=by
 obtain ⟨ps,p0,p1,p2⟩:=hd
 have hl:ps.length=l.length:=by rw [←p0,H4]
 obtain ⟨v',w',h1,h2,h3,h4,-⟩:=rQ (f:=cq) (t:=35) (A:=some ⟨W.heap.size,0,none⟩) (c:=1) underlying35 oF rfl (by decide) (fun _=>rfl) [x] (fun y hy=>by rw [List.mem_singleton] at hy;subst hy;exact hx.one) (World.ownsRow.alloc p1 (.cells (cq x).toArray 51)) (fun j u hu=>⟨_,_,rfl,by
  rw [H3]
  exact be (l:=cq x) rfl j u (by simpa using hu)⟩) (by simp;omega) (by simp;omega) (by decide)
 have hB0:Below base W w':=((Hs _ _).alloc hb _).trans h4
 refine ⟨v',w',h1,⟨ps++ [x],by rw [List.map_append,p0];rfl,h2,fun y hy=> ?_⟩,hB0,fun k hk hn=>(h3.block k (by simp;omega) (Ne.symm hn)).trans (heap_alloc_old W _ hk)⟩
 have hkeep:∀ y,Ce W B y→Ce w' B y:=fun y hy=>iG.keep hy fun a ha=>hB0.cell (Hr ha hBb)
 rcases HZ.1 hy with hy|hy
 ·exact hkeep y (p2 y hy)
 ·rw [List.mem_singleton] at hy;subst hy;exact hkeep _ hx
structure Bc where
 k:Int
 s:Int
 q:Int
 t:Int
 A1:Option Addr
 n1:Nat
 c1:Nat
 l:Int
 r:Int
 a:Int
 A2:Option Addr
 n2:Nat
 c2:Nat
def EN (x:Bc):List Value:= [.int .u8 x.k,.int .i64 x.s,.int .i64 x.q,.int .i64 x.t,.slice x.A1 x.n1 x.c1,.int .i64 x.l,.int .i64 x.r,.int .i64 x.a,.slice x.A2 x.n2 x.c2]
def Fc:CR Bc:=fun _ _ cs x=>cs=EN x
def sE (w:World) (base:Nat) (v:Value) (l:List Bc):Prop:=w.ownsRow base 51 9 v l.length (l.flatMap EN)
theorem sE.nil_ (w:World) (base:Nat):sE w base (.slice none 0 0) []:=World.ownsRow_nil _ _ _ _
theorem sE.form {w:World} {base:Nat} {v:Value} {l:List Bc} (h:sE w base v l):∃ A c,v=.slice A l.length c:=aR h
theorem sE.below {w w':World} {base B:Nat} {v:Value} {l:List Bc} (h:sE w base v l) (hb:Below B w w') (hB:w.heap.size≤B):sE w' base v l:=by
 refine ⟨h.1,?_⟩
 rcases h.2 with h2|⟨b,cap,cur,rfl,hb2,hh,r⟩
 ·exact .inl h2
 ·exact .inr ⟨b,cap,cur,rfl,hb2,(hb.block b (Hr (h.lt b rfl).2 hB)).trans hh,r⟩
theorem sE.sl {w:World} {base:Nat} {v:Value} {l:List Bc} (h:sE w base v l):∃ A c,v=.slice A l.length c∧Sl 9 Fc w w.heap.size A l:=fK (R:=Fc) (f:=EN) (fun _=>rfl) (fun x hx=>rfl) h
theorem oG {W:World} {base:Nat} {v:Value} {l:List Bc} (x:Bc) (hd:sE W base v l) (hb:base≤W.heap.size) (hz:l.length<1000):
  ∃ v' w',(eh #[35,35] 35 #[v,.slice (some ⟨W.heap.size,0,none⟩) 1 1]).run prog (W.alloc (.cells #[.int .u8 x.k,.int .i64 x.s,.int .i64 x.q,.int .i64 x.t,.slice x.A1 x.n1 x.c1,.int .i64 x.l,.int .i64 x.r,.int .i64 x.a,.slice x.A2 x.n2 x.c2] 51))=.ok v' w'∧sE w' base v' (l++ [x])∧Below base W w':=by
 obtain ⟨v',w',h1,h2,-,h4,-⟩:=eU (f:=EN) underlying35 oF rfl (by decide) (fun _=>rfl) (fun x u hu=>by simp [EN] at hu;rcases hu with rfl|rfl|rfl|rfl|rfl|rfl|rfl|rfl|rfl<;>rfl) x hd hb (by omega) (by decide)
 exact ⟨v',w',h1,h2,h4⟩
theorem vf (s:ByteArray) (n:Nat) (hs:s.size≤4) (hn:n<100) (ha:Go.Lib.atoi s.data.toList=some (n:Int)) (hi:Go.Lib.decDigits n=s.data.toList) (w:World):
  Calls prog 66 #[.string s] w fun e w'=>e=.returned (.tuple #[.int .i64 n,.bool true])∧Below w.heap.size w w':=by
 have hA:=aa ((Tryz.strconv_Atoi s n (by omega) ha w).mono fun e w' h=>(⟨h.1,by
  obtain ⟨k,hk⟩:=h.2
  rw [hk]
  exact Go.Lib.bytesWorld_below w _ _⟩:e=.returned (.tuple #[.int .i64 n,.nilIface])∧Below w.heap.size w w'))
 have hI:=aa (fun (W:World)=>(Tryz.strconv_Itoa_small n hn W).mono fun e w' h=>(⟨by rw [h.1,hi],h.2⟩:e=.returned (.string s)∧w'=W))
 have d1:decide ((s.size:Int)≤4)=true:=decide_eq_true (by omega)
 have d1':decide (s.size≤4)=true:=decide_eq_true hs
 have d2:decide ((0:Int)≤(n:Int))=true:=decide_eq_true (by omega)
 clear ha hi
 go_enter func66,ntmps66
 go_wp2_with (first|(go_at_call 118;refine hA.out.mono ?_;rintro e w1 ⟨rfl,hb1⟩)|(go_at_call 119;refine (hI.out _).mono ?_;rintro e w2 ⟨rfl,rfl⟩))
 exact bodyPost_ret (v:=.tuple #[.int .i64 (n:Int),.bool true]) (by simp [results,results66,go_sem]) rfl ⟨rfl,hb1⟩
theorem ua (c:bn) (A1 A2 B1 B2:Option Addr) (d1 d2 b1 b2:Nat) (k:Int) (e:aA) (w:World):
  Calls prog 70 #[eV A1 d1 A2 d2 c,.int .u8 k,.agg #[.int .i64 e.tab,.slice B1 e.pats.length b1,.int .i64 e.len,.int .i64 e.prio,.int .i64 e.run.act,.slice B2 e.run.args.length b2]] w fun r w'=>r=.returned (eV B1 b1 B2 b2 ⟨k,c.sw,c.pos,e⟩)∧Below w.heap.size w w':=by
 obtain ⟨ck,cs,cp,ce⟩:=c
 unfold eV
 simp only
 generalize ce.tab=t0
 generalize ce.pats.length=t1
 generalize ce.len=t2
 generalize ce.prio=t3
 generalize ce.run.act=t4
 generalize ce.run.args.length=t5
 generalize e.tab=e0
 generalize e.pats.length=e1
 generalize e.len=e2
 generalize e.prio=e3
 generalize e.run.act=e4
 generalize e.run.args.length=e5
 obtain ⟨wa,hwa,hsa,hba,hca,hfa⟩:=af w #[.int .u8 ck,.int .i64 cs,.int .i64 cp,.int .i64 t0,.slice A1 t1 d1,.int .i64 t2,.int .i64 t3,.int .i64 t4,.slice A2 t5 d2] 51
 obtain ⟨wb,hwb,hsb,hbb,hcb,-⟩:=af wa #[.int .i64 e0,.slice B1 e1 b1,.int .i64 e2,.int .i64 e3,.int .i64 e4,.slice B2 e5 b2] 49
 obtain ⟨x0,x1,x2,x3,x4,x5,x6,x7,x8⟩:=bW fun i=>(bj hbb w.heap.size i (by omega)).trans (hca i)
 rw [hsa] at hcb
 obtain ⟨y0,y1,y2,y3,y4,y5⟩:=uY hcb
 have hfz:∀ i,wb.frozen? ⟨w.heap.size,i,none⟩=false:=fun i=>(World.frozen?_of_block (hbb.block w.heap.size (by omega))).trans (hfa i)
 have l1:w.heap.size<wb.heap.size:=by omega
 have l2:w.heap.size+1<wb.heap.size:=by omega
 have hw:Below w.heap.size w wb:=hba.trans (hbb.mono (by omega))
 have hB:∀ W,Below w.heap.size wb W→Below w.heap.size w W:=fun W h=>hw.trans h
 replace hsb:=aa hsb
 clear hca hcb hba hbb hfa
 go_enter func70,ntmps70
 go_upto_region 1 with fail
 go_region
 all_goals go_wp2
 all_goals refine bodyPost_ret (v:=.agg #[.int .u8 k,.int .i64 cs,.int .i64 cp,.int .i64 e0,.slice B1 e1 b1,.int .i64 e2,.int .i64 e3,.int .i64 e4,.slice B2 e5 b2]) (by simp [results,results70,go_sem]) rfl ⟨rfl,hB _ ?_⟩
 all_goals repeat (first|(with_reducible exact Hs _ _)|(with_reducible refine Below.drew ?_)|(with_reducible refine Below.setCell ?_ (by simp) _)|(with_reducible refine Below.alloc ?_ (by simp<;>omega) _))
theorem gD:∀ args w,(callFunc 70 args).run prog w=.ok (.enter 70 args) w:=enters_of func70 (by kernel_rfl) rfl
def yC:Value:=.func (.func 70) #[] #[]
theorem Fe (c:bn) (AL A1 A2:Option Addr) (nL cL d1 d2 bw:Nat) (w:World) (lb:bw<w.heap.size) (hbw:w.cell? ⟨bw,0,none⟩=some yC):
  Calls prog 73 #[.slice AL nL cL,eV A1 d1 A2 d2 c,.pointer (some ⟨bw,0,none⟩)] w fun r w'=>r=.returned (eV none 0 none 0 ⟨2,c.sw,c.pos,e0⟩)∧Below w.heap.size w w':=by
 have hW:=aa (fun (W:World)=>show Calls prog 70 #[eV A1 d1 A2 d2 c,.int .u8 2,.agg #[.int .i64 0,.slice none 0 0,.int .i64 0,.int .i64 0,.int .i64 0,.slice none 0 0]] W fun r w'=>r=.returned (.agg #[.int .u8 2,.int .i64 c.sw,.int .i64 c.pos,.int .i64 0,.slice none 0 0,.int .i64 0,.int .i64 0,.int .i64 0,.slice none 0 0])∧Below W.heap.size W w' from ua c A1 A2 none none d1 d2 0 0 2 e0 W)
 have hpost:eV none 0 none 0 ⟨2,c.sw,c.pos,e0⟩=.agg #[.int .u8 2,.int .i64 c.sw,.int .i64 c.pos,.int .i64 0,.slice none 0 0,.int .i64 0,.int .i64 0,.int .i64 0,.slice none 0 0]:=rfl
 rw [hpost]
 clear hpost
 unfold eV at hW ⊢
 obtain ⟨ck,cs,cp,ce⟩:=c
 simp only at hW ⊢
 generalize ce.tab=t0 at hW ⊢
 generalize ce.pats.length=t1 at hW ⊢
 generalize ce.len=t2 at hW ⊢
 generalize ce.prio=t3 at hW ⊢
 generalize ce.run.act=t4 at hW ⊢
 generalize ce.run.args.length=t5 at hW ⊢
 obtain ⟨wa,hwa,hsa,hba,hca,-⟩:=af w #[.int .u8 ck,.int .i64 cs,.int .i64 cp,.int .i64 t0,.slice A1 t1 d1,.int .i64 t2,.int .i64 t3,.int .i64 t4,.slice A2 t5 d2] 51
 obtain ⟨wb,hwb,hsb,hbb,hcb,hfb⟩:=af wa #[.int .u8 0,.int .i64 0,.int .i64 0,.int .i64 0,.slice none 0 0,.int .i64 0,.int .i64 0,.int .i64 0,.slice none 0 0] 51
 obtain ⟨x0,x1,x2,x3,x4,x5,x6,x7,x8⟩:=bW fun i=>(bj hbb w.heap.size i (by omega)).trans (hca i)
 have hw:Below w.heap.size w wb:=hba.trans (hbb.mono (by omega))
 have hbw2:=((ae hw).1 bw 0 lb).trans hbw
 have lb2:bw<wb.heap.size:=by omega
 rw [hsa] at hcb hfb
 have l1:w.heap.size<wb.heap.size:=by omega
 have l2:w.heap.size+1<wb.heap.size:=by omega
 have hZ:=aa (fun (W:World) (hW:Below wb.heap.size wb W)=>(⟨bW fun i=>(((ae hW).1 _ i l2)).trans (hcb i),fun i=>(((ae hW).2 _ i l2)).trans (hfb i)⟩:(_∧_∧_∧_∧_∧_∧_∧_∧_)∧∀ i,W.frozen? ⟨w.heap.size+1,i,none⟩=false))
 have hB:∀ W,Below (w.heap.size+1) wb W→Below w.heap.size w W:=fun W h=>hw.trans (h.mono (by omega))
 have eg:=gD
 unfold yC at hbw2
 replace hsb:=aa hsb
 clear hca hcb hba hbb hfb hbw
 go_enter func73,ntmps73
 go_wp2_with (go_at_fn 70;refine (hW.out _).mono ?_;rintro r w5 ⟨rfl,hb5⟩;obtain ⟨⟨z0,z1,z2,z3,z4,z5,z6,z7,z8⟩,zf⟩:=hZ.out w5 hb5;have l5:=Hr l2 hb5.size)
 refine bodyPost_ret (v:=.agg #[.int .u8 2,.int .i64 cs,.int .i64 cp,.int .i64 0,.slice none 0 0,.int .i64 0,.int .i64 0,.int .i64 0,.slice none 0 0]) (by simp [results,results73,go_sem,z0,z1,z2,z3,z4,z5,z6,z7,z8]) rfl ⟨rfl,hB _ ?_⟩
 repeat (first|(with_reducible exact hb5.mono (by omega))|(with_reducible refine Below.setCell ?_ (by simp) _))
abbrev dE (f:Nat) (bw:Nat):Value:=.func (.func f) #[] #[.pointer (some ⟨bw,0,none⟩)]
abbrev dF (f:Nat):Value:=.func (.func f) #[] #[]
abbrev iD:Value:=.string ⟨#[97,100,100]⟩
abbrev iE:Value:=.string ⟨#[114,101,109,111,118,101]⟩
abbrev jh:Value:=.string ⟨#[114,101,112,108,97,99,101]⟩
theorem pH (w:World):Calls prog 31 #[] w fun e w'=>e=.returned (.agg #[iD,.bool true,dF 71,dE 73 (w.heap.size+1),iE,.bool false,dF 74,dE 76 (w.heap.size+1),jh,.bool true,dF 77,dE 78 (w.heap.size+1)])∧w'.cell? ⟨w.heap.size+1,0,none⟩=some yC∧w.heap.size+1<w'.heap.size∧Below w.heap.size w w':=by
 have hmf:∀ (fn:Fn) (first cap:Array Value) (w:World),(Instr.makeFunc fn first cap).run prog w=.ok (.func fn first cap) w:=fun _ _ _ _=>rfl
 go_enter func31,ntmps31
 go_wp2
 refine bodyPost_ret (v:=.agg #[iD,.bool true,dF 71,dE 73 (w.heap.size+1),iE,.bool false,dF 74,dE 76 (w.heap.size+1),jh,.bool true,dF 77,dE 78 (w.heap.size+1)]) (by simp [results,results31,go_sem,iD,iE,jh,dF,dE]) rfl ⟨rfl,?_,by simp,?_⟩
 ·rw [World.cell?_alloc_at _ _ _ _ (by simp)]
  rfl
 ·exact ((Hs _ _).alloc (Ht _) _).alloc (by simp) _
def kC (k:Int) (bw:Nat):Array Value:=if k=1 then #[iD,.bool true,dF 71,dE 73 bw] else if k=2 then #[iE,.bool false,dF 74,dE 76 bw] else #[jh,.bool true,dF 77,dE 78 bw]
theorem xN (c:bn) (A1 A2:Option Addr) (d1 d2:Nat) (w:World) (hk:u8 c.kind) (h1:1≤c.kind) (h3:c.kind≤3):
  Calls prog 21 #[eV A1 d1 A2 d2 c] w fun e w'=>∃ bw,e=.returned (.tuple #[.agg (kC c.kind bw),.bool true])∧w'.cell? ⟨bw,0,none⟩=some yC∧w.heap.size≤bw∧bw<w'.heap.size∧Below w.heap.size w w':=by
 unfold eV
 obtain ⟨ck,cs,cp,ce⟩:=c
 simp only at hk h1 h3 ⊢
 generalize ce.tab=t0
 generalize ce.pats.length=t1
 generalize ce.len=t2
 generalize ce.prio=t3
 generalize ce.run.act=t4
 generalize ce.run.args.length=t5
 obtain ⟨wa,hwa,hsa,hba,hca,-⟩:=af w #[.int .u8 ck,.int .i64 cs,.int .i64 cp,.int .i64 t0,.slice A1 t1 d1,.int .i64 t2,.int .i64 t3,.int .i64 t4,.slice A2 t5 d2] 51
 obtain ⟨wb,hwb,hsb,hbb,hcb,hfb⟩:=af wa #[.string ⟨#[]⟩,.bool false,.nilFunc,.nilFunc] 70
 obtain ⟨x0,x1,x2,x3,x4,x5,x6,x7,x8⟩:=bW fun i=>(bj hbb w.heap.size i (by omega)).trans (hca i)
 rw [hsa] at hcb hfb
 have l1:w.heap.size<wb.heap.size:=by omega
 have l2:w.heap.size+1<wb.heap.size:=by omega
 have hw:Below w.heap.size w wb:=hba.trans (hbb.mono (by omega))
 have hB:∀ W,Below (w.heap.size+1) wb W→Below w.heap.size w W:=fun W h=>hw.trans (h.mono (by omega))
 have hwz:=hw.size
 have hZ:=aa (fun (W:World) (hW:Below wb.heap.size wb W)=>(⟨ig fun i=>(((ae hW).1 _ i l2)).trans (hcb i),fun i=>(((ae hW).2 _ i l2)).trans (hfb i)⟩:(_∧_∧_∧_)∧∀ i,W.frozen? ⟨w.heap.size+1,i,none⟩=false))
 have hK:=aa (fun (W:World)=>(pH W).mono fun e w' h=>(⟨W.heap.size+1,h.1,h.2.1,Nat.le_succ _,h.2.2⟩:∃ bw,e=.returned (.agg #[iD,.bool true,dF 71,dE 73 bw,iE,.bool false,dF 74,dE 76 bw,jh,.bool true,dF 77,dE 78 bw])∧w'.cell? ⟨bw,0,none⟩=some yC∧W.heap.size≤bw∧bw<w'.heap.size∧Below W.heap.size W w'))
 replace hsb:=aa hsb
 clear hca hcb hba hbb hfb hw
 rcases (show ck=1∨ck=2∨ck=3 by omega) with rfl|rfl|rfl
 ·have hix:∀ (bw:Nat) (W:World),(Instr.index 102 (.agg #[iD,.bool true,dF 71,dE 73 bw,iE,.bool false,dF 74,dE 76 bw,jh,.bool true,dF 77,dE 78 bw]) (.int .u8 (IntKind.u8.wrap 0))).run prog W=.ok (.agg #[iD,.bool true,dF 71,dE 73 bw]) W:=fun _ _=>by kernel_rfl
  go_enter func21,ntmps21
  go_upto_region 3 with fail
  go_region_with (go_at_call 31;refine (hK.out _).mono ?_;rintro e w5 ⟨bw,rfl,hbw,hge,hlt,hb5⟩;have hb6:Below wb.heap.size wb w5:=(Hs _ _).drew.trans hb5;obtain ⟨⟨z0,z1,z2,z3⟩,zf⟩:=hZ.out w5 hb6;have l5:=Hr l2 hb6.size;have v0:=(hb6.cell (p:=⟨w.heap.size,0,none⟩) l1).trans x0;have l6:=Hr l1 hb6.size)
  all_goals go_wp2
  all_goals refine bodyPost_ret (v:=.tuple #[.agg (kC 1 bw),.bool true]) (by simp [results,results21,go_sem,z0,z1,z2,z3,kC]) rfl ⟨bw,rfl,?_,Hw hwz hge,by simpa using hlt,hB _ ?_⟩
  all_goals first|(repeat (first|(with_reducible exact hb6.mono (by omega))|(with_reducible refine Below.setCell ?_ (by simp) _)))|skip
  all_goals (
   have hge':wb.heap.size≤bw:=hge
   rw [World.cell?_setCell_other _ _ _ _ (by simp<;>omega),World.cell?_setCell_other _ _ _ _ (by simp<;>omega),World.cell?_setCell_other _ _ _ _ (by simp<;>omega),World.cell?_setCell_other _ _ _ _ (by simp<;>omega)]
   exact hbw)
 ·have hix:∀ (bw:Nat) (W:World),(Instr.index 102 (.agg #[iD,.bool true,dF 71,dE 73 bw,iE,.bool false,dF 74,dE 76 bw,jh,.bool true,dF 77,dE 78 bw]) (.int .u8 (IntKind.u8.wrap 1))).run prog W=.ok (.agg #[iE,.bool false,dF 74,dE 76 bw]) W:=fun _ _=>by kernel_rfl
  go_enter func21,ntmps21
  go_upto_region 3 with fail
  go_region_with (go_at_call 31;refine (hK.out _).mono ?_;rintro e w5 ⟨bw,rfl,hbw,hge,hlt,hb5⟩;have hb6:Below wb.heap.size wb w5:=(Hs _ _).drew.trans hb5;obtain ⟨⟨z0,z1,z2,z3⟩,zf⟩:=hZ.out w5 hb6;have l5:=Hr l2 hb6.size;have v0:=(hb6.cell (p:=⟨w.heap.size,0,none⟩) l1).trans x0;have l6:=Hr l1 hb6.size)
  all_goals go_wp2
  all_goals refine bodyPost_ret (v:=.tuple #[.agg (kC 2 bw),.bool true]) (by simp [results,results21,go_sem,z0,z1,z2,z3,kC]) rfl ⟨bw,rfl,?_,Hw hwz hge,by simpa using hlt,hB _ ?_⟩
  all_goals first|(repeat (first|(with_reducible exact hb6.mono (by omega))|(with_reducible refine Below.setCell ?_ (by simp) _)))|skip
  all_goals (
   have hge':wb.heap.size≤bw:=hge
   rw [World.cell?_setCell_other _ _ _ _ (by simp<;>omega),World.cell?_setCell_other _ _ _ _ (by simp<;>omega),World.cell?_setCell_other _ _ _ _ (by simp<;>omega),World.cell?_setCell_other _ _ _ _ (by simp<;>omega)]
   exact hbw)
 ·have hix:∀ (bw:Nat) (W:World),(Instr.index 102 (.agg #[iD,.bool true,dF 71,dE 73 bw,iE,.bool false,dF 74,dE 76 bw,jh,.bool true,dF 77,dE 78 bw]) (.int .u8 (IntKind.u8.wrap 2))).run prog W=.ok (.agg #[jh,.bool true,dF 77,dE 78 bw]) W:=fun _ _=>by kernel_rfl
  go_enter func21,ntmps21
  go_upto_region 3 with fail
  go_region_with (go_at_call 31;refine (hK.out _).mono ?_;rintro e w5 ⟨bw,rfl,hbw,hge,hlt,hb5⟩;have hb6:Below wb.heap.size wb w5:=(Hs _ _).drew.trans hb5;obtain ⟨⟨z0,z1,z2,z3⟩,zf⟩:=hZ.out w5 hb6;have l5:=Hr l2 hb6.size;have v0:=(hb6.cell (p:=⟨w.heap.size,0,none⟩) l1).trans x0;have l6:=Hr l1 hb6.size)
  all_goals go_wp2
  all_goals refine bodyPost_ret (v:=.tuple #[.agg (kC 3 bw),.bool true]) (by simp [results,results21,go_sem,z0,z1,z2,z3,kC]) rfl ⟨bw,rfl,?_,Hw hwz hge,by simpa using hlt,hB _ ?_⟩
  all_goals first|(repeat (first|(with_reducible exact hb6.mono (by omega))|(with_reducible refine Below.setCell ?_ (by simp) _)))|skip
  all_goals (
   have hge':wb.heap.size≤bw:=hge
   rw [World.cell?_setCell_other _ _ _ _ (by simp<;>omega),World.cell?_setCell_other _ _ _ _ (by simp<;>omega),World.cell?_setCell_other _ _ _ _ (by simp<;>omega),World.cell?_setCell_other _ _ _ _ (by simp<;>omega)]
   exact hbw)
def EO (bw:Nat):CR (ByteArray×Bool×Nat×Nat):=fun _ _ cs x=>cs= [.string x.1,.bool x.2.1,dF x.2.2.1,dE x.2.2.2 bw]
theorem Eh (bw:Nat):f7 (EO bw):=⟨fun h _=>h,fun h _=>h⟩
theorem pI:∀ args w,(callFunc 64 args).run prog w=.ok (.enter 64 args) w:=enters_of func64 (by kernel_rfl) rfl
theorem Ei (k ws:ByteArray) (b:Bool) (f g bw y x n c:Nat) (w:World) (hy:w.cell? ⟨y,0,none⟩=some (.slice (some ⟨x,0,none⟩) n c)) (hn:0<n) (hx:w.cell? ⟨x,0,none⟩=some (.string ws)) (ly:y<w.heap.size) (lx:x<w.heap.size):
  Calls prog 64 #[.agg #[.string k,.bool b,dF f,dE g bw],.pointer (some ⟨y,0,none⟩)] w fun e w'=>e=.returned (.bool (k.toList==ws.toList))∧Below w.heap.size w w':=by
 obtain ⟨wz,hwz,hsz,hbz,hcz,-⟩:=af w #[.string k,.bool b,dF f,dE g bw] 70
 have z0:wz.cell? ⟨w.heap.size,0,none⟩=some (.string k):=hcz 0
 have y0:=(hbz.cell (p:=⟨y,0,none⟩) ly).trans hy
 have x0:=(hbz.cell (p:=⟨x,0,none⟩) lx).trans hx
 have lz:w.heap.size<wz.heap.size:=by omega
 have ly':y<wz.heap.size:=by omega
 have lx':x<wz.heap.size:=by omega
 have h0n:(0:Int)<(n:Int):=by omega
 have hb0:=aa hbz
 clear hcz hy hx hbz hsz
 go_enter func64,ntmps64
 go_wp2_with fail
 go_quiet (fail)
 go_wp2
 go_ret
 exact ⟨rfl,au hb0.out _⟩
theorem Bd (ks:List (ByteArray×Bool×Nat×Nat)) (ws:ByteArray) (A:Option Addr) (cap bw y x n c i:Nat) (w:World) (hi:i<ks.length) (hno:∀ j (hj:j<ks.length),j<i→¬ks[j].1=ws) (hyes:ks[i].1=ws) (h:Sl 4 (EO bw) w w.heap.size A ks)
  (hy:w.cell? ⟨y,0,none⟩=some (.slice (some ⟨x,0,none⟩) n c)) (hn:0<n) (hx:w.cell? ⟨x,0,none⟩=some (.string ws)) (ly:y<w.heap.size) (lx:x<w.heap.size):
  Calls prog 63 #[.slice A ks.length cap,.func (.func 64) #[] #[.pointer (some ⟨y,0,none⟩)]] w fun e w'=>e=.returned (.int .i64 i)∧Below w.heap.size w w':=by
 have hl:=h.len
 have eg:=pI
 have hP:=aa (fun (k:ByteArray) (b:Bool) (f g:Nat) (W:World) (hW:Below w.heap.size w W)=>Ei k ws b f g bw y x n c W ((hW.cell (p:=⟨y,0,none⟩) ly).trans hy) hn ((hW.cell (p:=⟨x,0,none⟩) lx).trans hx) (Hr ly hW.size) (Hr lx hW.size))
 have hS:=aa (fun (W:World) (hW:Below w.heap.size w W)=>h.below (Eh bw) hW)
 replace hno:=aa hno
 clear h hy hx ly lx
 go_enter func63,ntmps63
 go_wp2
 go_loopw [5,8] (fun _ v8 wr=>∃ k:Nat,v8=.int .i64 (k:Int)∧k≤i∧Hid (Below w.heap.size w wr)) (fun _ v8 _=>ks.length-(RowKit.intOf v8).toNat)
 case atStart=>exact ⟨0,rfl,Hz _,aa (Hs _ _)⟩
 case round=>
  obtain ⟨k,rfl,hk,hT⟩:=hrel
  have hkl:k<ks.length:=by omega
  have hkz:(k:Int)<(ks.length:Int):=by omega
  have dk:decide ((k:Int)<(ks.length:Int))=true:=decide_eq_true hkz
  obtain ⟨b,o,ecs,hA,hb,hlen,hc,he⟩:=(hS.out wr hT.out).2 k ks[k] (HA hkl)
  unfold EO at he
  subst hA he
  have x0:=hc 0 _ rfl
  have x1:=hc 1 _ rfl
  have x2:=hc 2 _ rfl
  have x3:=hc 3 _ rfl
  rw [Nat.add_zero] at x0
  have lb:b<wr.heap.size:=Hr hb hT.out.size
  have hcall:=hP.out ks[k].1 ks[k].2.1 ks[k].2.2.1 ks[k].2.2.2 wr hT.out
  have hgw:=aS (show Below wr.heap.size wr wr from Hs _ _) (Ht _)
  by_cases hki:k=i
  ·subst hki
   rw [sG hyes] at hcall
   replace hcall:=aa hcall
   clear hno hyes
   generalize ks[k].1=k0 at*
   generalize ks[k].2.1=k1 at*
   generalize ks[k].2.2.1=k2 at*
   generalize ks[k].2.2.2=k3 at*
   go_wp2_with (go_at_fn 64;refine hcall.out.mono ?_;rintro e w' ⟨rfl,hb1⟩)
   go_ret
   exact ⟨rfl,hT.out.trans (hb1.mono hT.out.size)⟩
  ·have hf:=sH (hno.out k hkl (by omega))
   rw [hf] at hcall
   replace hcall:=aa hcall
   clear hno hyes hf
   generalize ks[k].1=k0 at*
   generalize ks[k].2.1=k1 at*
   generalize ks[k].2.2.1=k2 at*
   generalize ks[k].2.2.2=k3 at*
   go_wp2_with (go_at_fn 64;refine hcall.out.mono ?_;rintro e w' ⟨rfl,hb1⟩)
   go_roundw
   ·exact ⟨k+1,by go_num,by omega,aa (hT.out.trans (hb1.mono hT.out.size))⟩
   ·simp [RowKit.intOf];omega
section
open Go.Lib
def F6 (es:List aA):Prop:=∀ e∈es,FS e∧∀ x∈e.run.args,aW x.1∧aW x.2
end
section
open Go.RowKit Go.Lib
def ub:List ByteArray:= [⟨#[115,49]⟩]
def Be:aA:=⟨0,[⟨0,192,0,240⟩],4,0,⟨0,[(0,2)]⟩⟩
theorem Ej:bR EL=true:=by kernel_rfl
end
abbrev DA:ByteArray:=⟨#[97,100,100,32,115,49,32,48,32,115,49,46,116,58,32,49,57,50,47,52,32,112,114,105,111,32,48,32,45,62,32,102,119,100,40,50,41,59]⟩
abbrev DB:ByteArray:=⟨#[114,101,109,111,118,101,32,115,49,32,51,59]⟩
abbrev tM:ByteArray:=⟨#[115,49,46,116,58,32,49,57,50,47,52,32,112,114,105,111,32,48,32,45,62,32,102,119,100,40,50,41,59]⟩
abbrev uc:ByteArray:=⟨#[97,100,100,32,115,49,32,48,32,115,49,46,116,58,32,49,57,50,47,52,32,112,114,105,111,32,48,32,45,62,32,102,119,100,40,50,41,59,10,114,101,109,111,118,101,32,115,49,32,51,59,10]⟩
abbrev rR:ByteArray:=⟨#[114,101,109,111,118,101,32,115,49,32,51,59,10]⟩
abbrev xO:ByteArray:=⟨#[97,100,100]⟩
abbrev xP:ByteArray:=⟨#[114,101,109,111,118,101]⟩
abbrev DC:ByteArray:=⟨#[115,49]⟩
abbrev Ek:ByteArray:=⟨#[48]⟩
abbrev Ff:ByteArray:=⟨#[51]⟩
abbrev ud:ByteArray:=⟨#[51,59]⟩
theorem El:Go.Lib.splitB ⟨#[32]⟩ 0 (min 4 (DA.size+1)-1) DA= [xO,DC,Ek,tM]:=by kernel_rfl
theorem Em:Go.Lib.splitB ⟨#[32]⟩ 0 (min 4 (DB.size+1)-1) DB= [xP,DC,ud]:=by kernel_rfl
theorem F7:Go.Lib.cut uc.data.toList [10]=([97,100,100,32,115,49,32,48,32,115,49,46,116,58,32,49,57,50,47,52,32,112,114,105,111,32,48,32,45,62,32,102,119,100,40,50,41,59],[114,101,109,111,118,101,32,115,49,32,51,59,10],true):=by kernel_rfl
theorem F8:Go.Lib.cut rR.data.toList [10]=([114,101,109,111,118,101,32,115,49,32,51,59],[],true):=by kernel_rfl
theorem F9:Go.Lib.trimSuffix ud.data.toList [59]= [51]:=by kernel_rfl
theorem Fg:Go.Lib.hasSuffix ud.data.toList [59]=true:=by kernel_rfl
theorem Fh:Go.Lib.atoi Ek.data.toList=some ((0:Nat):Int):=by kernel_rfl
theorem Fi:Go.Lib.atoi Ff.data.toList=some ((3:Nat):Int):=by kernel_rfl
theorem Fj:Go.Lib.decDigits 0=Ek.data.toList:=(Go.Lib.decDigits_one (by decide)).trans (by decide)
theorem Fk:Go.Lib.decDigits 3=Ff.data.toList:=(Go.Lib.decDigits_one (by decide)).trans (by decide)
def rM:List Tk:=match iq tM.data.toList with| .ok r=>r|_=> []
theorem Ga:iq tM.data.toList=.ok rM:=by kernel_rfl
theorem Gb:np EL ub 100 (H8 ub.length []) rM=some [[Be]]:=by kernel_rfl
theorem C7 (mm:Int) (W:World) (hm:W.cell? ⟨0,0,none⟩=some (.int .i64 mm)):Calls prog 62 #[.string DA,.string ⟨#[32]⟩,.int .i64 4] W fun e w'=>e=.returned (.slice (some ⟨W.heap.size,0,none⟩) 4 4)∧w'=W.alloc (.cells #[.string xO,.string DC,.string Ek,.string tM] 9):=by
 have h:=Tryz.strings_SplitN DA ⟨#[32]⟩ 4 mm W (by decide) hm (by decide) (by decide) (by decide)
 rw [El] at h
 exact h
theorem C8 (mm:Int) (W:World) (hm:W.cell? ⟨0,0,none⟩=some (.int .i64 mm)):Calls prog 62 #[.string DB,.string ⟨#[32]⟩,.int .i64 4] W fun e w'=>e=.returned (.slice (some ⟨W.heap.size,0,none⟩) 3 4)∧w'=W.alloc (.cells #[.string xP,.string DC,.string ud,.string ⟨#[]⟩] 9):=by
 have h:=Tryz.strings_SplitN DB ⟨#[32]⟩ 4 mm W (by decide) hm (by decide) (by decide) (by decide)
 rw [Em] at h
 exact h
theorem Fl (mm:Int) (W:World) (hm:W.cell? ⟨0,0,none⟩=some (.int .i64 mm)):Calls prog 28 #[.string uc,.string ⟨#[10]⟩] W fun e w'=>e=.returned (.tuple #[.string DA,.string rR,.bool true])∧∃ n,w'=W.drewN n:=by
 have h:=Tryz.strings_Cut uc ⟨#[10]⟩ mm W (by decide) hm
 rw [show (⟨#[10]⟩:ByteArray).data.toList= [10] from rfl,F7] at h
 exact h
theorem Fo (mm:Int) (W:World) (hm:W.cell? ⟨0,0,none⟩=some (.int .i64 mm)):Calls prog 28 #[.string rR,.string ⟨#[10]⟩] W fun e w'=>e=.returned (.tuple #[.string DB,.string ⟨#[]⟩,.bool true])∧∃ n,w'=W.drewN n:=by
 have h:=Tryz.strings_Cut rR ⟨#[10]⟩ mm W (by decide) hm
 rw [show (⟨#[10]⟩:ByteArray).data.toList= [10] from rfl,F8] at h
 exact h
theorem C9 (W:World):Calls prog 65 #[.string ud,.string ⟨#[59]⟩] W fun e w'=>e=.returned (.tuple #[.string Ff,.bool true])∧w'=W:=by
 have h:=Tryz.strings_CutSuffix ud ⟨#[59]⟩ W (by decide)
 rw [show (⟨#[59]⟩:ByteArray).data.toList= [59] from rfl,F9,Fg] at h
 exact h
theorem En (w:World):Calls prog 66 #[.string Ek] w fun e w'=>e=.returned (.tuple #[.int .i64 0,.bool true])∧Below w.heap.size w w':=vf Ek 0 (by decide) (by decide) Fh Fj w
theorem Eo (w:World):Calls prog 66 #[.string Ff] w fun e w'=>e=.returned (.tuple #[.int .i64 3,.bool true])∧Below w.heap.size w w':=vf Ff 3 (by decide) (by decide) Fi Fk w
theorem rS (A:Option Addr) (c:Nat) (w:World) (h:Sl 1 cJ w w.heap.size A ub):Calls prog 67 #[.slice A 1 c,.string DC] w fun e w'=>e=.returned (.int .i64 0)∧w=w':=jU A c ub DC w h
def EP:List (ByteArray×Bool×Nat×Nat):= [(⟨#[97,100,100]⟩,true,71,73),(⟨#[114,101,109,111,118,101]⟩,false,74,76),(⟨#[114,101,112,108,97,99,101]⟩,true,77,78)]
theorem DD {w:World} {b B bw:Nat} (hb:b<B) (hc:∀ i,w.cell? ⟨b,i,none⟩=(#[iD,.bool true,dF 71,dE 73 bw,iE,.bool false,dF 74,dE 76 bw,jh,.bool true,dF 77,dE 78 bw]:Array Value)[i]?):Sl 4 (EO bw) w B (some ⟨b,0,none⟩) EP:=
 ⟨by simp [EP,maxLen],fun i x hx=>by
  match i,hx with
  |0,hx=>
   cases hx
   refine ⟨b,0,_,rfl,hb,rfl,fun j u hu=> ?_,rfl⟩
   match j,hu with
   |0,hu=>cases hu;exact hc 0
   |1,hu=>cases hu;exact hc 1
   |2,hu=>cases hu;exact hc 2
   |3,hu=>cases hu;exact hc 3
  |1,hx=>
   cases hx
   refine ⟨b,0,_,rfl,hb,rfl,fun j u hu=> ?_,rfl⟩
   match j,hu with
   |0,hu=>cases hu;exact hc 4
   |1,hu=>cases hu;exact hc 5
   |2,hu=>cases hu;exact hc 6
   |3,hu=>cases hu;exact hc 7
  |2,hx=>
   cases hx
   refine ⟨b,0,_,rfl,hb,rfl,fun j u hu=> ?_,rfl⟩
   match j,hu with
   |0,hu=>cases hu;exact hc 8
   |1,hu=>cases hu;exact hc 9
   |2,hu=>cases hu;exact hc 10
   |3,hu=>cases hu;exact hc 11⟩
theorem Bf (A:Option Addr) (bw y x n c:Nat) (w:World) (h:Sl 4 (EO bw) w w.heap.size A EP) (hy:w.cell? ⟨y,0,none⟩=some (.slice (some ⟨x,0,none⟩) n c)) (hn:0<n) (hx:w.cell? ⟨x,0,none⟩=some (.string xO)) (ly:y<w.heap.size) (lx:x<w.heap.size):
  Calls prog 63 #[.slice A 3 3,.func (.func 64) #[] #[.pointer (some ⟨y,0,none⟩)]] w fun e w'=>e=.returned (.int .i64 0)∧Below w.heap.size w w':=
 Bd EP xO A 3 bw y x n c 0 w (by decide) (fun j hj h=>absurd h (Nat.not_lt_zero _)) rfl h hy hn hx ly lx
theorem Bg (A:Option Addr) (bw y x n c:Nat) (w:World) (h:Sl 4 (EO bw) w w.heap.size A EP) (hy:w.cell? ⟨y,0,none⟩=some (.slice (some ⟨x,0,none⟩) n c)) (hn:0<n) (hx:w.cell? ⟨x,0,none⟩=some (.string xP)) (ly:y<w.heap.size) (lx:x<w.heap.size):
  Calls prog 63 #[.slice A 3 3,.func (.func 64) #[] #[.pointer (some ⟨y,0,none⟩)]] w fun e w'=>e=.returned (.int .i64 1)∧Below w.heap.size w w':=
 Bd EP xP A 3 bw y x n c 1 w (by decide) (fun j hj h=>by
  obtain rfl:j=0:=by omega
  show ¬xO=xP
  decide) rfl h hy hn hx ly lx
end Go.Proofs.YtijcdfdbkffiaaaGreatDoor

import Derived.Test.YtijcdfdbkffiaaaGreatDoorCbp17
import Derived.Test.YtijcdfdbkffiaaaGreatDoorCbp18
set_option linter.all false
namespace Go.Proofs.YtijcdfdbkffiaaaGreatDoor
open _root_.Nat renaming lt_of_lt_of_le→Hr, le_refl→Ht, zero_add→H3
open _root_.List renaming getElem?_eq_getElem→HA, getElem_mem→HE, length_append→HM, length_cons→HN, length_take→HO, mem_append→HZ, getElem?_eq_some_iff→H1, length_map→H4, take_length→H7, flatMap_cons→Ia, getElem?_set_self→Ic, eq_nil_of_length_eq_zero→Ie, take_append_drop→Ig, getElem?_set_ne→Ih, getElem?_append_right→Ik, flatMap_append→Io, getElem?_append_left→Ip
open Go.RowKit
def iG (w:World) (B:Nat) (x:aA×Value×Value):Prop:=(∃ A c,x.2.1=.slice A x.1.pats.length c∧Sl 4 gT w B A x.1.pats)∧(∃ A c,x.2.2=.slice A x.1.run.args.length c∧Sl 2 f8 w B A x.1.run.args)
theorem iG.keep {w w':World} {B:Nat} {x:aA×Value×Value} (h:iG w B x) (hk:∀ a:Addr,a.block<B→w'.cell? a=w.cell? a):iG w' B x:=by
 obtain ⟨⟨A,c,e1,h1⟩,A',c',e2,h2⟩:=h
 exact ⟨⟨A,c,e1,h1.keep ay hk⟩,A',c',e2,h2.keep aq hk⟩
theorem iG.more {w:World} {B B':Nat} {x:aA×Value×Value} (h:iG w B x) (hB:B≤B'):iG w B' x:=by
 obtain ⟨⟨A,c,e1,h1⟩,A',c',e2,h2⟩:=h
 exact ⟨⟨A,c,e1,h1.more ay hB⟩,A',c',e2,h2.more aq hB⟩
theorem iG.ent {w:World} {B:Nat} {x:aA×Value×Value} (h:iG w B x):eM w B (an x) x.1:=by
 obtain ⟨⟨A,c,e1,h1⟩,A',c',e2,h2⟩:=h
 exact ⟨A,c,A',c',by unfold an;rw [e1,e2],h1,h2⟩
theorem E4 {w:World} {B:Nat} {cs:List Value} {e:aA} (h:eM w B cs e):∃ x:aA×Value×Value,x.1=e∧cs=an x∧iG w B x:=by
 obtain ⟨A,c,A',c',rfl,h1,h2⟩:=h
 exact ⟨(e,.slice A e.pats.length c,.slice A' e.run.args.length c'),rfl,rfl,⟨A,c,rfl,h1⟩,A',c',rfl,h2⟩
theorem iG.one {w:World} {B:Nat} {x:aA×Value×Value} (h:iG w B x):∀ u∈an x,u.oneCell'=true:=fun u hu=>by
 obtain ⟨⟨A,c,e1,-⟩,A',c',e2,-⟩:=h
 simp [an] at hu
 rw [e1,e2] at hu
 rcases hu with rfl|rfl|rfl|rfl|rfl|rfl<;>rfl
theorem jg {w:World} {B:Nat} {ps:List (aA×Value×Value)} (h:∀ x∈ps,iG w B x):∀ u∈ps.flatMap an,u.oneCell'=true:=fun u hu=>by
 obtain ⟨x,hx,hu⟩:=List.mem_flatMap.1 hu
 exact (h x hx).one u hu
theorem aI (ps:List (aA×Value×Value)):(ps.flatMap an).length=ps.length*6:=by
 induction ps with
 |nil=>rfl
 |cons x r ih=>rw [Ia,HM,ih,HN];simp [an];omega
theorem Sl.entx {w:World} {B:Nat} {A:Option Addr} {l:List aA} (h:Sl 6 eM w B A l):∃ ps:List (aA×Value×Value),ps.map (·.1)=l∧(∀ x∈ps,iG w B x)∧
  ∀ j u,(ps.flatMap an)[j]? =some u→∃ b o,A=some ⟨b,o,none⟩∧b<B∧w.cell? ⟨b,o+j,none⟩=some u:=by
 have key:∀ (n:Nat),n≤l.length→∃ ps:List (aA×Value×Value),ps.map (·.1)=l.take n∧(∀ x∈ps,iG w B x)∧∀ j u,(ps.flatMap an)[j]? =some u→∃ b o,A=some ⟨b,o,none⟩∧b<B∧w.cell? ⟨b,o+j,none⟩=some u:=by
  intro n
  induction n with
  |zero=>exact fun _=>⟨[],by simp,by simp,by simp⟩
  |succ n ih=>
   intro hn
   obtain ⟨ps,p1,p2,p3⟩:=ih (by omega)
   obtain ⟨b,o,ecs,hA,hb,hl,hc,hR⟩:=h.2 n l[n] (HA (by omega))
   obtain ⟨x,hx,rfl,hI⟩:=E4 hR
   have hlen:ps.length=n:=by
    have:=congrArg List.length p1
    simpa [Nat.min_eq_left (show n≤l.length by omega)] using this
   refine ⟨ps++ [x],?_,fun y hy=> ?_,fun j u hu=> ?_⟩
   ·rw [List.map_append,p1,List.take_add_one,HA (by omega)]
    simp [hx]
   ·rcases HZ.1 hy with hy|hy
    ·exact p2 y hy
    ·rw [List.mem_singleton] at hy;subst hy;exact hI
   ·rw [Io] at hu
    by_cases hj:j<n*6
    ·rw [Ip (by rw [aI,hlen];exact hj)] at hu
     exact p3 j u hu
    ·rw [Ik (by rw [aI,hlen];omega),aI,hlen] at hu
     refine ⟨b,o,hA,hb,?_⟩
     have:=hc (j-n*6) u (by simpa using hu)
     rw [show o+j=o+n*6+(j-n*6) by omega]
     exact this
 obtain ⟨ps,p1,p2,p3⟩:=key l.length (Ht _)
 exact ⟨ps,by rw [p1,H7],p2,p3⟩
def pE (w:World) (base B:Nat) (v:Value) (l:List aA):Prop:=∃ ps:List (aA×Value×Value),ps.map (·.1)=l∧w.ownsRow base 49 6 v ps.length (ps.flatMap an)∧∀ x∈ps,iG w B x
theorem pE.nil_ (w:World) (base B:Nat):pE w base B (.slice none 0 0) []:=⟨[],rfl,World.ownsRow_nil _ _ _ _,fun x hx=>by simp at hx⟩
theorem pE.form {w:World} {base B:Nat} {v:Value} {l:List aA} (h:pE w base B v l):∃ A c,v=.slice A l.length c:=by
 obtain ⟨ps,rfl,h1,-⟩:=h
 obtain ⟨A,c,e⟩:=aR h1
 exact ⟨A,c,by rw [e,H4]⟩
theorem pE.sl {w:World} {base B:Nat} {v:Value} {l:List aA} (h:pE w base B v l) (hB:B≤w.heap.size):∃ A c,v=.slice A l.length c∧Sl 6 eM w w.heap.size A l:=by
 obtain ⟨ps,rfl,h1,h2⟩:=h
 obtain ⟨A,c,rfl,hS⟩:=fK (R:=fun w B cs (x:aA×Value×Value)=>eM w B cs x.1) (f:=an) (fun _=>rfl) (fun x hx=>((h2 x hx).more hB).ent) h1
 refine ⟨A,c,by rw [H4],by rw [H4];exact hS.1,fun i x hx=> ?_⟩
 rw [List.getElem?_map] at hx
 cases hp:ps[i]? with
 |none=>rw [hp] at hx;cases hx
 |some y=>
  rw [hp] at hx
  injection hx with hx
  subst hx
  exact hS.2 i y hp
theorem pE.move {w w':World} {base B:Nat} {v:Value} {l:List aA} (h:pE w base B v l) (hk:∀ a:Addr,a.block<B→w'.cell? a=w.cell? a) (hb:∀ b,v.ownBlock=some b→w'.heap[b]? =w.heap[b]?):pE w' base B v l:=by
 obtain ⟨ps,h0,h1,h2⟩:=h
 refine ⟨ps,h0,⟨h1.1,?_⟩,fun x hx=>(h2 x hx).keep hk⟩
 rcases h1.2 with h|⟨b,cap,cur,rfl,g1,g2,r⟩
 ·exact .inl h
 ·exact .inr ⟨b,cap,cur,rfl,g1,(hb b rfl).trans g2,r⟩
theorem pE.lt {w:World} {base B:Nat} {v:Value} {l:List aA} (h:pE w base B v l) (b:Nat) (hb:v.ownBlock=some b):base≤b∧b<w.heap.size:=by
 obtain ⟨ps,-,h1,-⟩:=h
 exact h1.lt b hb
structure bC (w:World) (base B og:Nat) (vs:List Value) (out:List (List aA)):Prop where
 bx:w.heap[og]? =some (.cells vs.toArray 38 (0,0))
 ob:base≤og
 bb:B≤base
 len:vs.length=out.length
 row:∀ (i:Nat) (v:Value) (l:List aA),vs[i]? =some v→out[i]? =some l→pE w base B v l
 ne:∀ (i j:Nat) (v u:Value),i≠j→vs[i]? =some v→vs[j]? =some u→v.ownBlock=none∨v.ownBlock≠u.ownBlock
 no:∀ (i:Nat) (v:Value),vs[i]? =some v→v.ownBlock≠some og
theorem bC.lt {w:World} {base B og:Nat} {vs:List Value} {out:List (List aA)} (h:bC w base B og vs out):og<w.heap.size:=aN h.bx
theorem bC.sl {w:World} {base B og:Nat} {vs:List Value} {out:List (List aA)} (h:bC w base B og vs out) (hm:out.length≤maxLen):Sl 1 em w w.heap.size (some ⟨og,0,none⟩) out:=by
 refine ⟨hm,fun i l hl=> ?_⟩
 have hi:i<out.length:=(H1.1 hl).1
 have hv:i<vs.length:=by rw [h.len];exact hi
 have hB:B≤w.heap.size:=by have:=h.bb;have:=h.ob;have:=h.lt;omega
 obtain ⟨A,c,e,hS⟩:=(h.row i vs[i] l (HA hv) hl).sl hB
 refine ⟨og,0,[vs[i]],rfl,h.lt,rfl,fun j u hu=> ?_,A,c,by rw [e],hS⟩
 cases j with
 |zero=>
  simp at hu
  subst hu
  rw [Nat.mul_one,H3,Nat.add_zero,aH h.bx i]
  simp [hv]
 |succ j=>simp at hu
theorem bC.below {w w':World} {base B og:Nat} {vs:List Value} {out:List (List aA)} (h:bC w base B og vs out) (hb:Below w.heap.size w w'):bC w' base B og vs out:=by
 have hB:B≤w.heap.size:=by have:=h.bb;have:=h.ob;have:=h.lt;omega
 exact ⟨(hb.block og h.lt).trans h.bx,h.ob,h.bb,h.len,fun i v l a b=>(h.row i v l a b).move (fun p hp=>hb.cell (Hr hp hB)) fun k hk=>hb.block k ((h.row i v l a b).lt k hk).2,h.ne,h.no⟩
theorem bC.cell {w:World} {base B og:Nat} {vs:List Value} {out:List (List aA)} (h:bC w base B og vs out) {i:Nat} (hi:i<out.length):∃ A c,vs[i]? =some (.slice A out[i].length c)∧w.cell? ⟨og,i,none⟩=some (.slice A out[i].length c)∧w.frozen? ⟨og,i,none⟩=false:=by
 have hv:i<vs.length:=by rw [h.len];exact hi
 obtain ⟨A,c,e⟩:=(h.row i vs[i] out[i] (HA hv) (HA hi)).form
 have e3:vs[i]? =some (.slice A out[i].length c):=by rw [HA hv,e]
 exact ⟨A,c,e3,(aH h.bx i).trans (by simpa using e3),cm h.bx i⟩
theorem bC.put {W W1:World} {base B og i:Nat} {vs:List Value} {out:List (List aA)} {v v':Value} {l':List aA} (h:bC W base B og vs out) (hi:i<out.length) (hv:vs[i]? =some v)
  (hbx:W1.heap[og]? =some (.cells (vs.set i v').toArray 38 (0,0))) (hfar:∀ k,k<W.heap.size→k≠og→v.ownBlock≠some k→W1.heap[k]? =W.heap[k]?) (hrow:pE W1 base B v' l')
  (hnew:v'.ownBlock=none∨v'.ownBlock=v.ownBlock∨∃ g,v'.ownBlock=some g∧W.heap.size≤g):bC W1 base B og (vs.set i v') (out.set i l'):=by
 have hvi:i<vs.length:=by rw [h.len];exact hi
 have hlow:∀ a:Addr,a.block<B→W1.cell? a=W.cell? a:=fun a ha=>by
  have h1:a.block<W.heap.size:=by have:=h.bb;have:=h.ob;have:=h.lt;omega
  refine World.cell?_of_block (hfar a.block h1 (by have:=h.bb;have:=h.ob;omega) fun e=> ?_)
  have:=((h.row i v out[i] hv (HA hi)).lt _ e).1
  have:=h.bb
  omega
 have hltv:∀ (j:Nat) (u:Value) (b:Nat),vs[j]? =some u→u.ownBlock=some b→b<W.heap.size:=fun j u b hu hb=>by
  have hj:j<out.length:=by rw [←h.len];exact (H1.1 hu).1
  exact ((h.row j u out[j] hu (HA hj)).lt b hb).2
 refine ⟨hbx,h.ob,h.bb,by simp [h.len],fun j u l hu hl=> ?_,fun a b x y hab hx hy=> ?_,fun j u hu=> ?_⟩
 ·by_cases hj:i=j
  ·subst hj
   rw [Ic hvi] at hu
   rw [Ic hi] at hl
   injection hu with hu
   injection hl with hl
   subst hu hl
   exact hrow
  ·rw [Ih hj] at hu hl
   refine (h.row j u l hu hl).move hlow fun k hk=>hfar k (hltv j u k hu hk) (fun e=> ?_) fun e=> ?_
   ·subst e
    exact h.no j u hu hk
   ·rcases h.ne j i u v (Ne.symm hj) hu hv with hn|hn
    ·rw [hn] at hk;cases hk
    ·exact hn (hk.trans e.symm)
 ·have key:∀ (j:Nat) (u:Value),i≠j→vs[j]? =some u→(v'.ownBlock=none∨v'.ownBlock≠u.ownBlock)∧(u.ownBlock=none∨u.ownBlock≠v'.ownBlock):=fun j u hj hu=>by
   rcases hnew with hn|hn|⟨g,hn,hg⟩
   ·rw [hn]
    refine ⟨.inl rfl,?_⟩
    cases ho:u.ownBlock with
    |none=>exact .inl rfl
    |some b=>exact .inr (by simp)
   ·rw [hn]
    exact ⟨h.ne i j v u hj hv hu,h.ne j i u v (Ne.symm hj) hu hv⟩
   ·rw [hn]
    cases ho:u.ownBlock with
    |none=>exact ⟨.inr (by simp),.inl rfl⟩
    |some b=>
     have:=hltv j u b hu ho
     exact ⟨.inr (fun e=>by injection e with e;omega),.inr (fun e=>by injection e with e;omega)⟩
  by_cases ha:i=a
  ·subst ha
   rw [Ic hvi] at hx
   injection hx with hx
   subst hx
   rw [Ih hab] at hy
   exact (key b y hab hy).1
  ·rw [Ih ha] at hx
   by_cases hb':i=b
   ·subst hb'
    rw [Ic hvi] at hy
    injection hy with hy
    subst hy
    exact (key a x ha hx).2
   ·rw [Ih hb'] at hy
    exact h.ne a b x y hab hx hy
 ·by_cases hj:i=j
  ·subst hj
   rw [Ic hvi] at hu
   injection hu with hu
   subst hu
   rcases hnew with hn|hn|⟨g,hn,hg⟩
   ·rw [hn];simp
   ·rw [hn];exact h.no i v hv
   ·rw [hn]
    intro e
    injection e with e
    have:=h.lt
    omega
  ·rw [Ih hj] at hu
   exact h.no j u hu
def kp (w:World) (n B:Nat) (A:Option Addr) (l:List aA):Prop:=∃ ps:List (aA×Value×Value),ps.map (·.1)=l∧(∀ x∈ps,iG w B x)∧
  ∀ j u,(ps.flatMap an)[j]? =some u→∃ b o,A=some ⟨b,o,none⟩∧b<n∧w.cell? ⟨b,o+j,none⟩=some u
def dB (w:World) (n B:Nat) (A:Option Addr) (l:List (List aA)):Prop:=∀ (i:Nat) (hi:i<l.length),∃ b o EA ec,A=some ⟨b,o,none⟩∧b<n∧w.cell? ⟨b,o+i,none⟩=some (.slice EA l[i].length ec)∧kp w n B EA l[i]
theorem kp.below {w W:World} {n m B:Nat} {A:Option Addr} {l:List aA} (h:kp w n B A l) (hb:Below m w W) (hn:n≤m) (hB:B≤m):kp W n B A l:=by
 obtain ⟨ps,p1,p2,p3⟩:=h
 refine ⟨ps,p1,fun x hx=>(p2 x hx).keep fun a ha=>hb.cell (Hr ha hB),fun j u hu=> ?_⟩
 obtain ⟨b,o,e,hl,hc⟩:=p3 j u hu
 exact ⟨b,o,e,hl,(hb.cell (p:=⟨b,o+j,none⟩) (Hr hl hn)).trans hc⟩
theorem kp.more {w:World} {n n' B:Nat} {A:Option Addr} {l:List aA} (h:kp w n B A l) (hn:n≤n'):kp w n' B A l:=by
 obtain ⟨ps,p1,p2,p3⟩:=h
 refine ⟨ps,p1,p2,fun j u hu=> ?_⟩
 obtain ⟨b,o,e,hl,hc⟩:=p3 j u hu
 exact ⟨b,o,e,Hr hl hn,hc⟩
theorem dB.below {w W:World} {n m B:Nat} {A:Option Addr} {l:List (List aA)} (h:dB w n B A l) (hb:Below m w W) (hn:n≤m) (hB:B≤m):dB W n B A l:=fun i hi=>by
 obtain ⟨b,o,EA,ec,e,hl,hc,hR⟩:=h i hi
 exact ⟨b,o,EA,ec,e,hl,(hb.cell (p:=⟨b,o+i,none⟩) (Hr hl hn)).trans hc,hR.below hb hn hB⟩
theorem dB.more {w:World} {n n' B:Nat} {A:Option Addr} {l:List (List aA)} (h:dB w n B A l) (hn:n≤n'):dB w n' B A l:=fun i hi=>by
 obtain ⟨b,o,EA,ec,e,hl,hc,hR⟩:=h i hi
 exact ⟨b,o,EA,ec,e,Hr hl hn,hc,hR.more hn⟩
theorem Sl.rowX {w:World} {B n:Nat} {A:Option Addr} {l:List aA} (h:Sl 6 eM w B A l) (hB:B≤n):kp w n B A l:=by
 obtain ⟨ps,p1,p2,p3⟩:=h.entx
 refine ⟨ps,p1,p2,fun j u hu=> ?_⟩
 obtain ⟨b,o,e,hl,hc⟩:=p3 j u hu
 exact ⟨b,o,e,Hr hl hB,hc⟩
theorem Sl.rowsX {w:World} {B n:Nat} {A:Option Addr} {l:List (List aA)} (h:Sl 1 em w B A l) (hB:B≤n):dB w n B A l:=fun i hi=>by
 obtain ⟨b,o,EA,ec,e,hb,hc,hE⟩:=h.ents hi
 exact ⟨b,o,EA,ec,e,Hr hb hB,hc,hE.rowX hB⟩
theorem pE.rowX {w:World} {base B:Nat} {v:Value} {l:List aA} (h:pE w base B v l):∃ A c,v=.slice A l.length c∧kp w w.heap.size B A l:=by
 obtain ⟨ps,rfl,h1,h2⟩:=h
 have hl:=h1.1
 rcases h1.2 with ⟨rfl,hz⟩|⟨g,cap,cur,rfl,-,hg,-,-,hs,ht⟩
 ·obtain rfl:ps= []:=Ie hz
  exact ⟨none,0,rfl,[],rfl,h2,fun j u hu=>by simp at hu⟩
 ·refine ⟨_,_,by rw [H4],ps,rfl,h2,fun j u hu=>⟨g,0,rfl,aN hg,?_⟩⟩
  have hj:j<ps.length*6:=by rw [←hl];exact (H1.1 hu).1
  rw [←ht,List.getElem?_take_of_lt hj] at hu
  rw [H3,aH hg j]
  simpa using hu
theorem bC.rowsX {w:World} {base B og:Nat} {vs:List Value} {out:List (List aA)} (h:bC w base B og vs out):dB w w.heap.size B (some ⟨og,0,none⟩) out:=fun i hi=>by
 have hv:i<vs.length:=by rw [h.len];exact hi
 obtain ⟨A,c,e,hR⟩:=(h.row i vs[i] out[i] (HA hv) (HA hi)).rowX
 refine ⟨og,0,A,c,rfl,h.lt,?_,hR⟩
 rw [H3,aH h.bx i]
 simp [hv,e]
theorem kp.ent {w:World} {n B:Nat} {A:Option Addr} {xs:List aA} (h:kp w n B A xs) {i:Nat} (hi:i<xs.length):∃ b o A1 A2 c1 c2,A=some ⟨b,o,none⟩∧b<n∧
  w.cell? ⟨b,o+i*6,none⟩=some (.int .i64 xs[i].tab)∧w.cell? ⟨b,o+i*6+1,none⟩=some (.slice A1 xs[i].pats.length c1)∧w.cell? ⟨b,o+i*6+2,none⟩=some (.int .i64 xs[i].len)∧w.cell? ⟨b,o+i*6+3,none⟩=some (.int .i64 xs[i].prio)∧w.cell? ⟨b,o+i*6+4,none⟩=some (.int .i64 xs[i].run.act)∧w.cell? ⟨b,o+i*6+5,none⟩=some (.slice A2 xs[i].run.args.length c2)∧Sl 4 gT w B A1 xs[i].pats∧Sl 2 f8 w B A2 xs[i].run.args:=by
 obtain ⟨ps,rfl,p2,p3⟩:=h
 have hp:i<ps.length:=by simpa using hi
 have hx:(ps.map (·.1))[i]=ps[i].1:=by simp
 obtain ⟨⟨A1,c1,e1,s1⟩,A2,c2,e2,s2⟩:=p2 ps[i] (HE hp)
 have key:∀ k (u:Value),(an ps[i])[k]? =some u→∃ b o,A=some ⟨b,o,none⟩∧b<n∧w.cell? ⟨b,o+(i*6+k),none⟩=some u:=fun k u hu=>by
  refine p3 (i*6+k) u ?_
  have h1:ps=ps.take i++ps[i]::ps.drop (i+1):=by rw [List.getElem_cons_drop,Ig]
  have hk:k<6:=(H1.1 hu).1
  rw [h1,Io,Ia,Ik (by rw [aI,HO];omega),aI,HO,Nat.min_eq_left (by omega),show i*6+k-i*6=k by omega,Ip (by exact hk)]
  exact hu
 obtain ⟨b,o,hA,hb,h0⟩:=key 0 _ rfl
 have same:∀ k (u:Value),(an ps[i])[k]? =some u→w.cell? ⟨b,o+i*6+k,none⟩=some u:=fun k u hu=>by
  obtain ⟨b',o',hA',-,hc⟩:=key k u hu
  rw [hA] at hA'
  injection hA' with hA'
  injection hA' with q1 q2 q3
  subst q1 q2
  rw [Nat.add_assoc]
  exact hc
 simp only [hx]
 exact ⟨b,o,A1,A2,c1,c2,hA,hb,same 0 _ rfl,by rw [←e1];exact same 1 _ rfl,same 2 _ rfl,same 3 _ rfl,same 4 _ rfl,by rw [←e2];exact same 5 _ rfl,s1,s2⟩
end Go.Proofs.YtijcdfdbkffiaaaGreatDoor

import Derived.Test.YtbbdhknagofghaaGreatTcp53
set_option linter.all false
set_option maxRecDepth 20000
open Go.Proofs.Tryz
namespace Go.Proofs.YtbbdhknagofghaaGreat
section
open Go.ChangeShapes Go.WideShapes Go.ChangeAt Go.RowKit Go.Deep
theorem zL {H:Type} {enc:TypeId×Value→H} {w:World} {fuel:Nat} {cs:List Value} {x:DataW H×List MemPlace} (h:DataW.trod enc prog w 0 (fun _=>true) true fuel 58 cs=some x) {A:Option Addr} {n c:Nat} (h1:cs[1]? =some (.slice A n c)):n≤c:=by
 obtain ⟨xs,k,_,rfl,hl,hlen,hg⟩:=DataW.trod_struct underlying58 h
 rw [jQ] at hl
 match xs,hlen with
 | [y0,y1,y2,y3],_=>
  match cs,hl with
  | [a0,a1,a2,a3,a4],_=>
   have ha:a1=.slice A n c:=by simpa using h1
   subst ha
   rcases open_slice (t:=53) (e:=52) underlying53 (by simpa [uy] using hg 1 _ rfl) with ⟨e,_⟩|⟨a,len,cap,m,n',D,Pl,e,_,hle,_⟩
   ·injection e with e;injection e with _ e2 e3;omega
   ·injection e with e;injection e with _ e2 e3;omega
theorem wM (b o i j:Nat):((⟨b,o,none⟩:Addr).add i).add j=⟨b,o+i+j,none⟩:=by unfold Addr.add;split<;>split<;>simp_all
theorem wN {H:Type} {enc:TypeId×Value→H} {w:World} {fuel:Nat} {x:DataW H×List MemPlace} (A1 A2 A3 A4 A5 A6 A7:Option Addr) (p:Pg) (c1 c2 c3 c4 c5 c6 c7:Nat) (h:DataW.trod enc prog w 0 (fun _=>true) true fuel 30 ((aq p A1 A2 A3 A4 A5 A6 A7 c1 c2 c3 c4 c5 c6 c7):Array Value).toList=some x):jH w A5 p:=by
 intro i hi g o A c hA hcell
 obtain ⟨xs,n,_,rfl,hl,hlen,hg⟩:=DataW.trod_struct underlying30 h
 match xs,hlen with
 | [y0,y1,y2,y3,y4,y5,y6],_=>
  rcases open_slice (t:=26) (e:=58) underlying26 (by simpa [o8] using hg 4 _ rfl) with ⟨e,_⟩|⟨a,len,cap,m,n',D,Pl,e,_,hle,_,hmm,_,hx⟩
  ·injection e with e;injection e with e1;rw [hA] at e1;cases e1
  ·injection e with e;injection e with e1 e2 e3
   rw [hA] at e1
   injection e1 with e1
   subst e1
   simp only [if_true] at hmm
   obtain ⟨cs',hc,htr⟩:=hx i (by omega)
   rw [jQ] at hc
   obtain ⟨_,h1,h2⟩:=World.cells?_some hc
   refine zL htr (A:=A) ?_
   have h3:=h2 1 (by omega)
   rw [wM,hcell] at h3
   exact h3.symm
end
end Go.Proofs.YtbbdhknagofghaaGreat

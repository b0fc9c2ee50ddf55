import Derived.Test.YtijcdfdbkffiaaaGreatDoorCbp20
set_option linter.all false
set_option maxHeartbeats 4000000
set_option maxRecDepth 100000
open Go.Proofs.Tryz
namespace Go.Proofs.YtijcdfdbkffiaaaGreatDoor
open _root_.Nat renaming lt_of_lt_of_le→Hr, le_refl→Ht, le_trans→Hw
open _root_.Go.RowKit.Below renaming refl→Hs
open _root_.List renaming getElem?_eq_getElem→HA, length_append→HM, length_take→HO, length_drop→HR, take_of_length_le→H6, flatMap_cons→Ia, take_append_drop→Ig, drop_of_length_le→Im, flatMap_append→Io
open _root_.Int renaming eq_ofNat_of_zero_le→HH, toNat_natCast→HQ
open Go.RowKit
theorem fZ {α:Type} (A B:List α) (k:Nat) (x y:α) (h:A.length=k):(A++x::B).set k y=A++y::B:=by
 rw [List.set_append_right _ _ (by omega)]
 simp [h]
theorem F5 {α:Type} (L:List α) (k:Nat) (h:k+6≤L.length):∃ a b c d e f,L=L.take k++a::b::c::d::e::f::L.drop (k+6):=by
 have h0:=Ig k L
 have hl:(L.drop k).length=L.length-k:=HR
 match hd:L.drop k,hl with
 |a::b::c::d::e::f::r,_=>
  refine ⟨a,b,c,d,e,f,?_⟩
  have hr:L.drop (k+6)=r:=by
   rw [←List.drop_drop,hd]
   rfl
  rw [hr,←hd,Ig]
 | [],hl=>simp at hl;omega
 | [_],hl=>simp at hl;omega
 | [_,_],hl=>simp at hl;omega
 | [_,_,_],hl=>simp at hl;omega
 | [_,_,_,_],hl=>simp at hl;omega
 | [_,_,_,_,_],hl=>simp at hl;omega
theorem E6 {α:Type} (L:List α) (k:Nat) (h:k+6≤L.length) (u0 u1 u2 u3 u4 u5:α):
  ((((((L.set k u0).set (k+1) u1).set (k+2) u2).set (k+3) u3).set (k+4) u4).set (k+5) u5)=L.take k++u0::u1::u2::u3::u4::u5::L.drop (k+6):=by
 obtain ⟨a,b,c,d,e,f,hL⟩:=F5 L k h
 have hk:(L.take k).length=k:=by rw [HO];omega
 generalize L.take k=T at*
 generalize L.drop (k+6)=D at*
 subst hL
 rw [fZ T _ k a u0 hk]
 rw [show T++u0::b::c::d::e::f::D=(T++ [u0])++b::c::d::e::f::D by simp,fZ _ _ (k+1) b u1 (by simp [hk])]
 rw [show (T++ [u0])++u1::c::d::e::f::D=(T++ [u0,u1])++c::d::e::f::D by simp,fZ _ _ (k+2) c u2 (by simp [hk])]
 rw [show (T++ [u0,u1])++u2::d::e::f::D=(T++ [u0,u1,u2])++d::e::f::D by simp,fZ _ _ (k+3) d u3 (by simp [hk])]
 rw [show (T++ [u0,u1,u2])++u3::e::f::D=(T++ [u0,u1,u2,u3])++e::f::D by simp,fZ _ _ (k+4) e u4 (by simp [hk])]
 rw [show (T++ [u0,u1,u2,u3])++u4::f::D=(T++ [u0,u1,u2,u3,u4])++f::D by simp,fZ _ _ (k+5) f u5 (by simp [hk])]
 simp
theorem C6 {W:World} {base g n i:Nat} {ps:List (aA×Value×Value)} (x:aA×Value×Value) (hs:W.heap[g]? =some (.cells (ps.flatMap an).toArray 49 (0,0))) (hn:ps.length=n) (hi:i<n) (hz:n≤1000) (hg:base≤g) (u0 u1 u2 u3 u4 u5:Value) (hx:an x= [u0,u1,u2,u3,u4,u5]):
  (((((((W.setCell ⟨g,i*6,none⟩ u0).setCell ⟨g,i*6+1,none⟩ u1).setCell ⟨g,i*6+2,none⟩ u2).setCell ⟨g,i*6+3,none⟩ u3).setCell ⟨g,i*6+4,none⟩ u4).setCell ⟨g,i*6+5,none⟩ u5).ownsRow base 49 6 (.slice (some ⟨g,0,none⟩) n n) n ((ps.take i++x::ps.drop (i+1)).flatMap an)∧
   (∀ k,k≠g→(((((((W.setCell ⟨g,i*6,none⟩ u0).setCell ⟨g,i*6+1,none⟩ u1).setCell ⟨g,i*6+2,none⟩ u2).setCell ⟨g,i*6+3,none⟩ u3).setCell ⟨g,i*6+4,none⟩ u4).setCell ⟨g,i*6+5,none⟩ u5).heap[k]? =W.heap[k]?))∧
   Below base W ((((((W.setCell ⟨g,i*6,none⟩ u0).setCell ⟨g,i*6+1,none⟩ u1).setCell ⟨g,i*6+2,none⟩ u2).setCell ⟨g,i*6+3,none⟩ u3).setCell ⟨g,i*6+4,none⟩ u4).setCell ⟨g,i*6+5,none⟩ u5)):=by
 subst hn
 have hcl:=aI ps
 have h0:=ax (k:=i*6) (v:=u0) hs
 have h1:=ax (k:=i*6+1) (v:=u1) h0
 have h2:=ax (k:=i*6+2) (v:=u2) h1
 have h3:=ax (k:=i*6+3) (v:=u3) h2
 have h4:=ax (k:=i*6+4) (v:=u4) h3
 have h5:=ax (k:=i*6+5) (v:=u5) h4
 have hC:((((((((ps.flatMap an).toArray.setIfInBounds (i*6) u0).setIfInBounds (i*6+1) u1).setIfInBounds (i*6+2) u2).setIfInBounds (i*6+3) u3).setIfInBounds (i*6+4) u4).setIfInBounds (i*6+5) u5))=((ps.take i++x::ps.drop (i+1)).flatMap an).toArray:=by
  apply Array.toList_inj.1
  simp only [Array.toList_setIfInBounds,List.toList_toArray]
  rw [E6 _ _ (by omega)]
  rw [Io,Ia,hx,pF,pG,show (i+1)*6=i*6+6 by omega]
  rfl
 rw [hC] at h5
 refine ⟨⟨?_,.inr ⟨g,ps.length,_,rfl,hg,h5,Ht _,by simp [maxLen];omega,?_,?_⟩⟩,fun k hk=> ?_,?_⟩
 ·rw [aI];simp;omega
 ·rw [List.size_toArray,aI];simp;omega
 ·rw [List.toList_toArray,H6]
  rw [aI];simp;omega
 ·rw [ak hk,ak hk,ak hk,ak hk,ak hk,ak hk]
 ·exact ((((((Hs _ _).setCell (p:=⟨g,i*6,none⟩) hg u0).setCell (p:=⟨g,i*6+1,none⟩) hg u1).setCell (p:=⟨g,i*6+2,none⟩) hg u2).setCell (p:=⟨g,i*6+3,none⟩) hg u3).setCell (p:=⟨g,i*6+4,none⟩) hg u4).setCell (p:=⟨g,i*6+5,none⟩) hg u5
section
attribute [local go_sem ↓] cH AY
theorem E7 {w:World} {base g n i:Nat} {ps:List (aA×Value×Value)} (hs:w.heap[g]? =some (.cells (ps.flatMap an).toArray 49 (0,0))) (hn:ps.length=n) (hi:i<n) (hz:n≤1000) (hg:base≤g) (h1:∀ u∈ps.flatMap an,u.oneCell'=true):
  Calls prog 75 #[.slice (some ⟨g,0,none⟩) n n,.int .i64 (i:Int),.int .i64 ((i:Int)+1)] w fun e w'=>e=.returned (.slice (some ⟨g,0,none⟩) (n-1) n)∧w'.ownsRow base 49 6 (.slice (some ⟨g,0,none⟩) (n-1) n) (n-1) ((ps.take i++ps.drop (i+1)).flatMap an)∧(∀ k,k≠g→w'.heap[k]? =w.heap[k]?)∧Below base w w':=by
 obtain ⟨W2,W3,r1,r2,hO,hF,hB⟩:=Ba hs hn hi hz hg h1 (if i+1<n then ⟨g,(i+1)*6,none⟩ else ⟨g,0,none⟩) (fun h=>if_pos h)
 have hO':=aa (And.intro hO (And.intro hF hB))
 have e1:((i:Int)==(i:Int)+1)=false:=by rw [beq_eq_false_iff_ne];omega
 clear hs h1 hO hF hB
 replace hn:=aa hn
 go_enter func75,ntmps75
 by_cases hlast:i+1<n
 rw [if_pos hlast] at r1
 have r3:(tX #[38] 0 #[.slice (some ⟨g,(n-1)*6,none⟩) (n-(n-1)) (n-(n-1))]).run prog W2=.ok (.tuple #[]) W3:=by rw [show n-(n-1)=1 by omega];exact r2
 rotate_right
 focus
  rw [if_neg hlast] at r1
  have hin:n=i+1:=by omega
  subst hin
  simp only [Nat.sub_self,Nat.add_sub_cancel] at r1 r2
  have hle:(i:Int)≤(i:Int)+1:=by omega
 all_goals
  go_upto_region 5 with fail
  go_region
  all_goals go_wp2
  all_goals go_ret
  all_goals exact ⟨rfl,hO'.out.1,hO'.out.2.1,hO'.out.2.2⟩
end
section
attribute [local go_sem ↓] cH vd
theorem E8 {w:World} {g n i gv:Nat} {ps:List (aA×Value×Value)} {x:aA×Value×Value} (hs:w.heap[g]? =some (.cells (ps.flatMap an).toArray 49 (0,0))) (hn:ps.length=n) (hi:i≤n) (hz:n≤1000)
  (hv:∀ j u,(an x)[j]? =some u→w.cell? ⟨gv,j,none⟩=some u) (h1:∀ u∈ps.flatMap an,u.oneCell'=true) (hx1:∀ u∈an x,u.oneCell'=true):
  Calls prog 72 #[.slice (some ⟨g,0,none⟩) n n,.int .i64 (i:Int),.slice (some ⟨gv,0,none⟩) 1 1] w fun e w'=>∃ v',e=.returned v'∧w'.ownsRow w.heap.size 49 6 v' (n+1) ((ps.take i++x::ps.drop i).flatMap an)∧Below w.heap.size w w':=by
 by_cases hin:i=n
 ·subst hin
  obtain ⟨v',W',hrun,hO,hB⟩:=C4 (base:=w.heap.size) hs hn hz (Ht _) hv
  rw [HM,hn] at hO
  have hps:ps.take i++x::ps.drop i=ps++ [x]:=by rw [H6 (by omega),Im (by omega)]
  rw [hps]
  have hO':=aa hO
  have hB':=aa hB
  clear hs hv h1 hx1 hO hB hps
  replace hn:=aa hn
  have d1:((i:Int)==(i:Int))=true:=beq_self_eq_true _
  go_enter func72,ntmps72
  go_wp2
  go_ret
  exact ⟨v',rfl,hO'.out,hB'.out⟩
 ·have hlt:i<n:=by omega
  obtain ⟨cap2,W2,W3,W4,r1,hcap,r2,r3,hO,hB2,hB3,hB4⟩:=C5 (base:=w.heap.size) hs hn hlt hz hv h1 hx1
  have hO':=aa hO
  have hB':=aa hB4
  have c1:((n+1-i:Nat):Int)=(n:Int)+1-(i:Int):=by omega
  have c2:((n-i:Nat):Int)=(n:Int)-(i:Int):=by omega
  rw [c1] at r1
  rw [c2] at r3
  have d1:((i:Int)==(n:Int))=false:=by rw [beq_eq_false_iff_ne];omega
  have d2:decide ((n:Int)<(n:Int)+1)=true:=decide_eq_true (by omega)
  clear hs hv h1 hx1 hO hB2 hB3 hB4
  replace hn:=aa hn
  go_enter func72,ntmps72
  go_wp2
  go_region
  all_goals go_wp2
  all_goals go_ret
  all_goals exact ⟨_,rfl,hO'.out,hB'.out⟩
end
structure rP (w w':World) (base g:Nat) (v v':Value) (m:Nat) (qs:List (aA×Value×Value)):Prop where
 own:w'.ownsRow base 49 6 v' m (qs.flatMap an)
 far:∀ k,k<w.heap.size→k≠g→w'.heap[k]? =w.heap[k]?
 blk:v'.ownBlock=v.ownBlock∨∃ b,v'.ownBlock=some b∧w.heap.size≤b
 bel:Below base w w'
theorem E9 (c:bn) (A1 A2:Option Addr) (d1 d2:Nat) {w:World} {base g n:Nat} {ps:List (aA×Value×Value)} {x:aA×Value×Value} (h0:0≤c.pos) (hx:x.1=c.e∧x.2.1=.slice A1 c.e.pats.length d1∧x.2.2=.slice A2 c.e.run.args.length d2)
  (hs:w.heap[g]? =some (.cells (ps.flatMap an).toArray 49 (0,0))) (hn:ps.length=n) (hi:c.pos.toNat≤n) (hz:n≤1000) (hg:base≤g) (h1:∀ u∈ps.flatMap an,u.oneCell'=true):
  Calls prog 71 #[.slice (some ⟨g,0,none⟩) n n,eV A1 d1 A2 d2 c] w fun e w'=>∃ v',e=.returned v'∧rP w w' base g (.slice (some ⟨g,0,none⟩) n n) v' (n+1) (ps.take c.pos.toNat++x::ps.drop c.pos.toNat):=by
 unfold eV
 obtain ⟨ck,cs,cp,ce⟩:=c
 simp only at h0 hx ⊢
 obtain ⟨i,rfl⟩:=HH h0
 obtain ⟨y,yv1,yv2⟩:=x
 obtain ⟨e1,e2,e3⟩:=hx
 simp only at e1 e2 e3
 subst e1 e2 e3
 obtain ⟨wa,hwa,hsa,hba,hca,-⟩:=af w #[.int .u8 ck,.int .i64 cs,.int .i64 (i:Int),.int .i64 y.tab,.slice A1 y.pats.length d1,.int .i64 y.len,.int .i64 y.prio,.int .i64 y.run.act,.slice A2 y.run.args.length d2] 51
 obtain ⟨x0,x1,x2,x3,x4,x5,x6,x7,x8⟩:=bW hca
 have l1:w.heap.size<wa.heap.size:=by omega
 have hgw:=aN hs
 have hsa2:wa.heap[g]? =some (.cells (ps.flatMap an).toArray 49 (0,0)):=(hba.block g hgw).trans hs
 have hx1:∀ u∈an (y,Value.slice A1 y.pats.length d1,Value.slice A2 y.run.args.length d2),u.oneCell'=true:=fun u hu=>by
  simp [an] at hu
  rcases hu with rfl|rfl|rfl|rfl|rfl|rfl<;>rfl
 simp only [HQ] at hi ⊢
 obtain ⟨W,hW⟩:∃ W,W=wa.alloc (.cells #[.int .i64 y.tab,.slice A1 y.pats.length d1,.int .i64 y.len,.int .i64 y.prio,.int .i64 y.run.act,.slice A2 y.run.args.length d2] 49):=⟨_,rfl⟩
 have hbW:Below wa.heap.size wa W:=by rw [hW];exact (Hs _ _).alloc (Ht _) _
 have hB:Below w.heap.size w W:=hba.trans (hbW.mono (by omega))
 have hI:=aa (E8 (w:=W) (gv:=wa.heap.size) (x:=(y,Value.slice A1 y.pats.length d1,Value.slice A2 y.run.args.length d2)) ((hbW.block g (by omega)).trans hsa2) hn hi hz (fun j u hu=>by rw [hW];exact be (l:=an (y,Value.slice A1 y.pats.length d1,Value.slice A2 y.run.args.length d2)) rfl j u hu) h1 hx1)
 rw [hW] at hI
 have hWs:wa.heap.size<W.heap.size:=by rw [hW];simp
 have hfin:=aa (fun (w':World) (v':Value) (hO:w'.ownsRow W.heap.size 49 6 v' (n+1) ((ps.take i++(y,Value.slice A1 y.pats.length d1,Value.slice A2 y.run.args.length d2)::ps.drop i).flatMap an)) (hb:Below W.heap.size W w')=>(⟨cM hO (by have:=hB.size;omega),fun k hk _=>((hB.trans (hb.mono hB.size)).block k hk),.inr (by
  rcases hO.2 with ⟨-,h⟩|⟨b,cap,cur,rfl,hge,-⟩
  ·omega
  ·exact ⟨b,rfl,Hw hB.size hge⟩),(hB.trans (hb.mono hB.size)).mono (by omega)⟩:rP w w' base g (.slice (some ⟨g,0,none⟩) n n) v' (n+1) (ps.take i++(y,Value.slice A1 y.pats.length d1,Value.slice A2 y.run.args.length d2)::ps.drop i)))
 rw [hW] at hfin
 rw [hsa] at hI
 clear hbW hB hWs hW hs hsa2 h1 hx1 hca hba
 replace hn:=aa hn
 generalize y.tab=t0 at*
 generalize y.pats.length=t1 at*
 generalize y.len=t2 at*
 generalize y.prio=t3 at*
 generalize y.run.act=t4 at*
 generalize y.run.args.length=t5 at*
 go_enter func71,ntmps71
 go_wp2_with (go_at_call 72;refine hI.out.mono ?_;rintro e w5 ⟨v',rfl,hO5,hb5⟩)
 go_ret
 exact ⟨v',rfl,hfin.out _ _ hO5 hb5⟩
theorem fE {W:World} {g i j:Nat} {ps:List (aA×Value×Value)} (hs:W.heap[g]? =some (.cells (ps.flatMap an).toArray 49 (0,0))) (hi:i<ps.length) (hj:j<6):∃ u,W.cell? ⟨g,i*6+j,none⟩=some u:=by
 refine ⟨(ps.flatMap an)[i*6+j]'(by rw [aI];omega),?_⟩
 rw [aH hs]
 simp
theorem Fa (c:bn) (A1 A2:Option Addr) (d1 d2:Nat) {w:World} {base g n:Nat} {ps:List (aA×Value×Value)} {x:aA×Value×Value} (h0:0≤c.pos) (hx:x.1=c.e∧x.2.1=.slice A1 c.e.pats.length d1∧x.2.2=.slice A2 c.e.run.args.length d2)
  (hs:w.heap[g]? =some (.cells (ps.flatMap an).toArray 49 (0,0))) (hn:ps.length=n) (hi:c.pos.toNat<n) (hz:n≤1000) (hg:base≤g):
  Calls prog 77 #[.slice (some ⟨g,0,none⟩) n n,eV A1 d1 A2 d2 c] w fun e w'=>∃ v',e=.returned v'∧rP w w' base g (.slice (some ⟨g,0,none⟩) n n) v' n (ps.take c.pos.toNat++x::ps.drop (c.pos.toNat+1)):=by
 unfold eV
 obtain ⟨ck,cs,cp,y⟩:=c
 simp only at h0 hi hx ⊢
 obtain ⟨i,rfl⟩:=HH h0
 obtain ⟨y',yv1,yv2⟩:=x
 obtain ⟨e1,e2,e3⟩:=hx
 simp only at e1 e2 e3
 subst e1 e2 e3
 simp only [HQ] at hi ⊢
 obtain ⟨wa,hwa,hsa,hba,hca,-⟩:=af w #[.int .u8 ck,.int .i64 cs,.int .i64 (i:Int),.int .i64 y'.tab,.slice A1 y'.pats.length d1,.int .i64 y'.len,.int .i64 y'.prio,.int .i64 y'.run.act,.slice A2 y'.run.args.length d2] 51
 obtain ⟨x0,x1,x2,x3,x4,x5,x6,x7,x8⟩:=bW hca
 have l1:w.heap.size<wa.heap.size:=by omega
 have hgw:=aN hs
 have hgn:g≠w.heap.size:=by omega
 have hga:g<wa.heap.size:=by omega
 have hsa2:wa.heap[g]? =some (.cells (ps.flatMap an).toArray 49 (0,0)):=(hba.block g hgw).trans hs
 have hip:i<ps.length:=by omega
 obtain ⟨q0,k0⟩:=fE (j:=0) hsa2 hip (by omega)
 obtain ⟨q1,k1⟩:=fE (j:=1) hsa2 hip (by omega)
 obtain ⟨q2,k2⟩:=fE (j:=2) hsa2 hip (by omega)
 obtain ⟨q3,k3⟩:=fE (j:=3) hsa2 hip (by omega)
 obtain ⟨q4,k4⟩:=fE (j:=4) hsa2 hip (by omega)
 obtain ⟨q5,k5⟩:=fE (j:=5) hsa2 hip (by omega)
 rw [Nat.add_zero] at k0
 have hfz:∀ k,wa.frozen? ⟨g,k,none⟩=false:=fun k=>cm hsa2 k
 obtain ⟨hO,hF,hB⟩:=C6 (y',Value.slice A1 y'.pats.length d1,Value.slice A2 y'.run.args.length d2) hsa2 hn hi hz hg _ _ _ _ _ _ rfl
 have hO':=aa hO
 have hF':=aa hF
 have hB':=aa hB
 have hb0:=aa hba
 have hge:=aa hg
 have hiz:(i:Int)<(n:Int):=by omega
 replace hsa:=aa hsa
 clear hs hsa2 hca hba hO hF hB hip
 replace hn:=aa hn
 generalize y'.tab=t0 at*
 generalize y'.pats.length=t1 at*
 generalize y'.len=t2 at*
 generalize y'.prio=t3 at*
 generalize y'.run.act=t4 at*
 generalize y'.run.args.length=t5 at*
 go_enter func77,ntmps77
 go_wp2
 go_ret
 exact ⟨_,rfl,hO'.out,fun k hk hn=>(hF'.out k hn).trans (hb0.out.block k hk),.inl rfl,(hb0.out.mono (by omega)).trans hB'.out⟩
theorem Fb (c:bn) (A1 A2:Option Addr) (d1 d2:Nat) {w:World} {base g n:Nat} {ps:List (aA×Value×Value)} (h0:0≤c.pos)
  (hs:w.heap[g]? =some (.cells (ps.flatMap an).toArray 49 (0,0))) (hn:ps.length=n) (hi:c.pos.toNat<n) (hz:n≤1000) (hg:base≤g) (h1:∀ u∈ps.flatMap an,u.oneCell'=true):
  Calls prog 74 #[.slice (some ⟨g,0,none⟩) n n,eV A1 d1 A2 d2 c] w fun e w'=>∃ v',e=.returned v'∧rP w w' base g (.slice (some ⟨g,0,none⟩) n n) v' (n-1) (ps.take c.pos.toNat++ps.drop (c.pos.toNat+1)):=by
 unfold eV
 obtain ⟨ck,cs,cp,y⟩:=c
 simp only at h0 hi ⊢
 obtain ⟨i,rfl⟩:=HH h0
 simp only [HQ] at hi ⊢
 obtain ⟨wa,hwa,hsa,hba,hca,-⟩:=af w #[.int .u8 ck,.int .i64 cs,.int .i64 (i:Int),.int .i64 y.tab,.slice A1 y.pats.length d1,.int .i64 y.len,.int .i64 y.prio,.int .i64 y.run.act,.slice A2 y.run.args.length d2] 51
 obtain ⟨x0,x1,x2,x3,x4,x5,x6,x7,x8⟩:=bW hca
 have l1:w.heap.size<wa.heap.size:=by omega
 have hgw:=aN hs
 have hsa2:wa.heap[g]? =some (.cells (ps.flatMap an).toArray 49 (0,0)):=(hba.block g hgw).trans hs
 have hI:=aa (E7 hsa2 hn hi hz hg h1)
 have hb0:=aa hba
 have hge:=aa hg
 replace hsa:=aa hsa
 clear hs hsa2 h1 hca hba
 replace hn:=aa hn
 generalize y.tab=t0 at*
 generalize y.pats.length=t1 at*
 generalize y.len=t2 at*
 generalize y.prio=t3 at*
 generalize y.run.act=t4 at*
 generalize y.run.args.length=t5 at*
 go_enter func74,ntmps74
 go_wp2_with (go_at_call 75;refine hI.out.mono ?_;rintro e w5 ⟨rfl,hO5,hF5,hb5⟩)
 go_ret
 exact ⟨_,rfl,hO5,fun k hk hn=>(hF5 k hn).trans (hb0.out.block k hk),.inl rfl,(hb0.out.mono (by omega)).trans hb5⟩
theorem bC.own_row {w:World} {base B og i g n:Nat} {vs:List Value} {out:List (List aA)} (h:bC w base B og vs out) (hi:i<out.length) (hv:vs[i]? =some (.slice (some ⟨g,0,none⟩) n n)):
  ∃ ps:List (aA×Value×Value),ps.map (·.1)=out[i]∧ps.length=n∧w.heap[g]? =some (.cells (ps.flatMap an).toArray 49 (0,0))∧(∀ x∈ps,iG w B x)∧base≤g∧g≠og:=by
 have hno:=h.no i _ hv
 obtain ⟨ps,h0,h1,h2⟩:=h.row i _ _ hv (HA hi)
 have hl:=h1.1
 rcases h1.2 with ⟨e,-⟩|⟨b,cap,cur,e,hb,hc,-,-,hs,ht⟩
 ·cases e
 ·injection e with e1 e2 e3
  injection e1 with e1
  injection e1 with e1
  subst e1 e2 e3
  refine ⟨ps,h0,rfl,?_,h2,hb,fun e=>hno (by rw [e];rfl)⟩
  rw [hc]
  have:cur=(ps.flatMap an).toArray:=by
   apply Array.toList_inj.1
   rw [←ht,H6 (by rw [Array.length_toList];omega)]
  rw [this]
theorem bC.far {w w':World} {base B og:Nat} {vs:List Value} {out:List (List aA)} (h:bC w base B og vs out) (hl:∀ a:Addr,a.block<B→w'.cell? a=w.cell? a) (hh:∀ k,base≤k→w'.heap[k]? =w.heap[k]?):bC w' base B og vs out:=
 ⟨(hh og h.ob).trans h.bx,h.ob,h.bb,h.len,fun i v l a b=>(h.row i v l a b).move hl fun k hk=>hh k ((h.row i v l a b).lt k hk).1,h.ne,h.no⟩
theorem bC.make {W W':World} {base B og i g n m:Nat} {vs:List Value} {out:List (List aA)} {v':Value} {qs:List (aA×Value×Value)} (h:bC W base B og vs out) (hi:i<out.length) (hv:vs[i]? =some (.slice (some ⟨g,0,none⟩) n n))
  (hm:rP W W' base g (.slice (some ⟨g,0,none⟩) n n) v' m qs) (hq:∀ x∈qs,iG W B x) (hl:qs.length=m):
  bC (W'.setCell ⟨og,i,none⟩ v') base B og (vs.set i v') (out.set i (qs.map (·.1)))∧Below base W (W'.setCell ⟨og,i,none⟩ v'):=by
 obtain ⟨ps,-,-,hgb,-,hbg,hgo⟩:=h.own_row hi hv
 have hog:=h.lt
 have hob:=h.ob
 have hbb:=h.bb
 have hgl:=aN hgb
 have hbx:W'.heap[og]? =some (.cells vs.toArray 38 (0,0)):=(hm.far og hog (Ne.symm hgo)).trans h.bx
 have hf:∀ k,k≠og→(W'.setCell ⟨og,i,none⟩ v').heap[k]? =W'.heap[k]? :=fun k hk=>ak hk
 have hnb:∀ b,v'.ownBlock=some b→b≠og:=fun b hb=>by
  rcases hm.blk with e|⟨b',e,hb'⟩
  ·rw [e] at hb;cases hb;exact hgo
  ·rw [e] at hb;cases hb;omega
 refine ⟨h.put hi hv ?_ (fun k hk hn hg=>(hf k hn).trans (hm.far k hk (fun e=>hg (by rw [e];rfl)))) ?_ ?_,hm.bel.setCell (p:=⟨og,i,none⟩) hob v'⟩
 ·rw [ax (C:=vs.toArray) (t:=38) (fr:=(0,0)) hbx]
  simp
 ·refine pE.move (w:=W') ⟨qs,rfl,by rw [hl];exact hm.own,fun x hx=>(hq x hx).keep fun a ha=>hm.bel.cell (by omega)⟩ (fun a ha=>World.cell?_of_block (hf a.block (by omega))) fun b hb=>hf b (hnb b hb)
 ·rcases hm.blk with e|⟨b,e,hb⟩
  ·exact .inr (.inl e)
  ·exact .inr (.inr ⟨b,e,hb⟩)
theorem aT {α:Type} {x:Option α} {o:α} (h:x=some o):x=some o:=h
def Bb (B:Nat) (L:List (List aA)) (bk:bn) (n:Nat) (w:World) (e:Ending) (w':World):Prop:=
 ∃ b og vs A1 c1 A2 c2,e=.returned (.tuple #[.slice (some ⟨og,0,none⟩) n n,eV A1 c1 A2 c2 bk,.int .i64 0])∧w.heap.size≤b∧bC w' b B og vs L∧Sl 4 gT w' B A1 bk.e.pats∧Sl 2 f8 w' B A2 bk.e.run.args∧Below w.heap.size w w'
def iB (wz wx:World) (g:Nat) (v0 v1 v2 v3 v4 v5 v6 v7 v8:Value):Prop:=Below wz.heap.size wz wx∧wz.heap.size≤g∧g<wx.heap.size∧wx.cell? ⟨g,0,none⟩=some v0∧wx.cell? ⟨g,1,none⟩=some v1∧wx.cell? ⟨g,2,none⟩=some v2∧wx.cell? ⟨g,3,none⟩=some v3∧wx.cell? ⟨g,4,none⟩=some v4∧wx.cell? ⟨g,5,none⟩=some v5∧wx.cell? ⟨g,6,none⟩=some v6∧wx.cell? ⟨g,7,none⟩=some v7∧wx.cell? ⟨g,8,none⟩=some v8
abbrev z9:Array Value:=#[.int .u8 0,.int .i64 0,.int .i64 0,.int .i64 0,.slice none 0 0,.int .i64 0,.int .i64 0,.int .i64 0,.slice none 0 0]
theorem iB.new {wz w3:World} (h:Below wz.heap.size wz w3) (v0 v1 v2 v3 v4 v5 v6 v7 v8:Value):iB wz (w3.alloc (.cells #[v0,v1,v2,v3,v4,v5,v6,v7,v8] 51)) w3.heap.size v0 v1 v2 v3 v4 v5 v6 v7 v8:=by
 have hc:∀ i,(w3.alloc (.cells #[v0,v1,v2,v3,v4,v5,v6,v7,v8] 51)).cell? ⟨w3.heap.size,i,none⟩=(#[v0,v1,v2,v3,v4,v5,v6,v7,v8]:Array Value)[i]? :=fun _=>World.cell?_alloc_at _ _ _ _ rfl
 obtain ⟨c0,c1,c2,c3,c4,c5,c6,c7,c8⟩:=bW hc
 exact ⟨h.alloc h.size _,h.size,by simp,c0,c1,c2,c3,c4,c5,c6,c7,c8⟩
theorem iB.set {wz w2 w3:World} (h2:w2=wz.drew.alloc (.cells z9 51)) (h3:Below wz.heap.size wz w3) (h4:Below w2.heap.size w2 w3) (v0 v1 v2 v3 v4 v5 v6 v7 v8:Value):
  iB wz (((((((((w3.setCell ⟨wz.heap.size,0,none⟩ v0).setCell ⟨wz.heap.size,1,none⟩ v1).setCell ⟨wz.heap.size,2,none⟩ v2).setCell ⟨wz.heap.size,3,none⟩ v3).setCell ⟨wz.heap.size,4,none⟩ v4).setCell ⟨wz.heap.size,5,none⟩ v5).setCell ⟨wz.heap.size,6,none⟩ v6).setCell ⟨wz.heap.size,7,none⟩ v7).setCell ⟨wz.heap.size,8,none⟩ v8) wz.heap.size v0 v1 v2 v3 v4 v5 v6 v7 v8:=by
 have hs:w2.heap.size=wz.heap.size+1:=by rw [h2];simp
 have hc:∀ i,w2.cell? ⟨wz.heap.size,i,none⟩=z9[i]? :=fun _=>by rw [h2];exact World.cell?_alloc_at _ _ _ _ rfl
 have hc3:=fun i=>(bj h4 wz.heap.size i (by omega)).trans (hc i)
 obtain ⟨c0,c1,c2,c3,c4,c5,c6,c7,c8⟩:=bW hc3
 have hlt:wz.heap.size<w3.heap.size:=by have:=h4.size;omega
 refine ⟨(((((((((h3.setCell (p:=⟨wz.heap.size,0,none⟩) (Ht _) v0).setCell (p:=⟨wz.heap.size,1,none⟩) (Ht _) v1).setCell (p:=⟨wz.heap.size,2,none⟩) (Ht _) v2).setCell (p:=⟨wz.heap.size,3,none⟩) (Ht _) v3).setCell (p:=⟨wz.heap.size,4,none⟩) (Ht _) v4).setCell (p:=⟨wz.heap.size,5,none⟩) (Ht _) v5).setCell (p:=⟨wz.heap.size,6,none⟩) (Ht _) v6).setCell (p:=⟨wz.heap.size,7,none⟩) (Ht _) v7).setCell (p:=⟨wz.heap.size,8,none⟩) (Ht _) v8),Ht _,by simpa [World.setCell] using hlt,?_,?_,?_,?_,?_,?_,?_,?_,?_⟩<;>simp [go_sem,c0,c1,c2,c3,c4,c5,c6,c7,c8]
theorem iB.set2 {wz w2 w3:World} (h2:w2=(wz.alloc (.cells z9 51)).drew) (h3:Below wz.heap.size wz w3) (h4:Below w2.heap.size w2 w3) (v0 v1 v2 v3 v4 v5 v6 v7 v8:Value):
  iB wz (((((((((w3.setCell ⟨wz.heap.size,0,none⟩ v0).setCell ⟨wz.heap.size,1,none⟩ v1).setCell ⟨wz.heap.size,2,none⟩ v2).setCell ⟨wz.heap.size,3,none⟩ v3).setCell ⟨wz.heap.size,4,none⟩ v4).setCell ⟨wz.heap.size,5,none⟩ v5).setCell ⟨wz.heap.size,6,none⟩ v6).setCell ⟨wz.heap.size,7,none⟩ v7).setCell ⟨wz.heap.size,8,none⟩ v8) wz.heap.size v0 v1 v2 v3 v4 v5 v6 v7 v8:=by
 have hs:w2.heap.size=wz.heap.size+1:=by rw [h2];simp
 have hc:∀ i,w2.cell? ⟨wz.heap.size,i,none⟩=z9[i]? :=fun _=>by rw [h2];show (wz.alloc (.cells z9 51)).cell? _=_;exact World.cell?_alloc_at _ _ _ _ rfl
 have hc3:=fun i=>(bj h4 wz.heap.size i (by omega)).trans (hc i)
 obtain ⟨c0,c1,c2,c3,c4,c5,c6,c7,c8⟩:=bW hc3
 have hlt:wz.heap.size<w3.heap.size:=by have:=h4.size;omega
 refine ⟨(((((((((h3.setCell (p:=⟨wz.heap.size,0,none⟩) (Ht _) v0).setCell (p:=⟨wz.heap.size,1,none⟩) (Ht _) v1).setCell (p:=⟨wz.heap.size,2,none⟩) (Ht _) v2).setCell (p:=⟨wz.heap.size,3,none⟩) (Ht _) v3).setCell (p:=⟨wz.heap.size,4,none⟩) (Ht _) v4).setCell (p:=⟨wz.heap.size,5,none⟩) (Ht _) v5).setCell (p:=⟨wz.heap.size,6,none⟩) (Ht _) v6).setCell (p:=⟨wz.heap.size,7,none⟩) (Ht _) v7).setCell (p:=⟨wz.heap.size,8,none⟩) (Ht _) v8),Ht _,by simpa [World.setCell] using hlt,?_,?_,?_,?_,?_,?_,?_,?_,?_⟩<;>simp [go_sem,c0,c1,c2,c3,c4,c5,c6,c7,c8]
theorem cI {base g:Nat} {w wx:World} (h:Below base w wx) (hg:base≤g) (v0 v1 v2 v3 v4 v5 v6 v7 v8:Value):Below base w (((((((((wx.setCell ⟨g,0,none⟩ v0).setCell ⟨g,1,none⟩ v1).setCell ⟨g,2,none⟩ v2).setCell ⟨g,3,none⟩ v3).setCell ⟨g,4,none⟩ v4).setCell ⟨g,5,none⟩ v5).setCell ⟨g,6,none⟩ v6).setCell ⟨g,7,none⟩ v7).setCell ⟨g,8,none⟩ v8):=(((((((((h.setCell (p:=⟨g,0,none⟩) hg v0).setCell (p:=⟨g,1,none⟩) hg v1).setCell (p:=⟨g,2,none⟩) hg v2).setCell (p:=⟨g,3,none⟩) hg v3).setCell (p:=⟨g,4,none⟩) hg v4).setCell (p:=⟨g,5,none⟩) hg v5).setCell (p:=⟨g,6,none⟩) hg v6).setCell (p:=⟨g,7,none⟩) hg v7).setCell (p:=⟨g,8,none⟩) hg v8)
theorem Eg {g k:Nat} {wx:World} (h:k≠g) (v0 v1 v2 v3 v4 v5 v6 v7 v8:Value):(((((((((wx.setCell ⟨g,0,none⟩ v0).setCell ⟨g,1,none⟩ v1).setCell ⟨g,2,none⟩ v2).setCell ⟨g,3,none⟩ v3).setCell ⟨g,4,none⟩ v4).setCell ⟨g,5,none⟩ v5).setCell ⟨g,6,none⟩ v6).setCell ⟨g,7,none⟩ v7).setCell ⟨g,8,none⟩ v8).heap[k]? =wx.heap[k]? :=by
 rw [ak h,ak h,ak h,ak h,ak h,ak h,ak h,ak h,ak h]
theorem jF {W w:World} {k:Nat} (h:W.heap[k]? =w.heap[k]?):W.drew.heap[k]? =w.heap[k]? :=h
theorem cY {n:Nat} {wz W:World} (h:Below n wz W):Below n wz W∧∀ b o,b<n→W.cell? ⟨b,o,none⟩=wz.cell? ⟨b,o,none⟩:=⟨h,(ae h).1⟩
theorem rP.behind {wz W w':World} {base g m:Nat} {v v':Value} {qs:List (aA×Value×Value)} (hW:Below wz.heap.size wz W) (hb:base≤wz.heap.size) (h:rP W w' base g v v' m qs):rP wz w' base g v v' m qs:=
 ⟨h.own,fun k hk hn=>(h.far k (Hr hk hW.size) hn).trans (hW.block k hk),h.blk.imp id fun ⟨b,e,hb⟩=>⟨b,e,Hw hW.size hb⟩,(hW.mono hb).trans h.bel⟩
theorem xH:∀ args w,(callFunc 71 args).run prog w=.ok (.enter 71 args) w:=enters_of func71 (by kernel_rfl) rfl
theorem xI:∀ args w,(callFunc 73 args).run prog w=.ok (.enter 73 args) w:=enters_of func73 (by kernel_rfl) rfl
theorem xJ:∀ args w,(callFunc 74 args).run prog w=.ok (.enter 74 args) w:=enters_of func74 (by kernel_rfl) rfl
theorem xK:∀ args w,(callFunc 76 args).run prog w=.ok (.enter 76 args) w:=enters_of func76 (by kernel_rfl) rfl
theorem xL:∀ args w,(callFunc 77 args).run prog w=.ok (.enter 77 args) w:=enters_of func77 (by kernel_rfl) rfl
theorem xM:∀ args w,(callFunc 78 args).run prog w=.ok (.enter 78 args) w:=enters_of func78 (by kernel_rfl) rfl
end Go.Proofs.YtijcdfdbkffiaaaGreatDoor

import Derived.Test.YtiebolhmdhdagaaGreatDoorEwp43
set_option linter.all false
set_option maxRecDepth 20000
open Go.Proofs.Tryz
namespace Go.Proofs.YtiebolhmdhdagaaGreatDoor
open _root_.List renaming getElem?_eq_getElem→Hn, getElem_of_mem→Hw, map_cons→HL
section
open Go.ChangeShapes Go.WideShapes Go.ChangeAt Go.RowKit Go.Deep
theorem qm:prog.cellsOf 57=6:=by kernel_rfl
theorem vp:prog.cellsOf 38=1:=by kernel_rfl
def Fw (m:Nat):CR GL:=fun w B cs x=>FZ w B cs x∧(∀ s∈x.na,s.size≤m)∧(∀ s∈x.nt,s.size≤m)
def F0 (m:Nat):CR Lp:=fun w B cs p=>GX w B cs p∧(∀ s∈p.na,s.size≤m)∧(∀ s∈p.nt,s.size≤m)
theorem Cj {m:Nat} {w:World} {B:Nat} {A:Option Addr} {xs:List ByteArray} (h:Sl 1 (B9 m) w B A xs):Sl 1 bZ w B A xs∧∀ s∈xs,s.size≤m:=
 ⟨h.imp fun cs x g=>⟨g.1,g.2.1⟩,fun s hs=>by
  obtain ⟨i,hi,rfl⟩:=Hw hs
  obtain ⟨_,_,_,_,_,_,_,_,_,h3⟩:=h.2 i _ (Hn hi)
  exact h3⟩
theorem qo {m:Nat}:iN m 28 (oD 1 (B9 m)):=cF (m:=m) (t:=28) (e:=9) (k:=1) underlying28 om (by decide) (DH underlying9)
theorem vq {m:Nat} (hm:m≤sm):iN m 31 (Fw m):=fun H enc w fuel cs x h hb=>by
 obtain ⟨xs,n,_,rfl,hl,hlen,hg⟩:=DataW.trod_struct underlying31 h
 rw [qh] at hl
 match xs,hlen with
 | [y0,y1,y2,y3,y4],_=>
  simp only [HL,List.map_nil,Rows.uptoBulk,Rows.uptoBulkAll] at hb
  have p0:=ap y0.1
  have p1:=ap y1.1
  have p2:=ap y2.1
  have p3:=ap y3.1
  have p4:=ap y4.1
  match cs,hl with
  | [a0,a1,a2,a3,a4],_=>
   obtain ⟨v0,A0,c0,e0,h0⟩:=jW (m:=m) H enc w n [a0] y0 (by simpa [eD] using hg 0 _ rfl) (by omega)
   obtain ⟨v1,A1,c1,e1,h1⟩:=cF (m:=m) (t:=29) (e:=28) (k:=1) underlying29 eD (by decide) (jW (m:=m)) H enc w n [a1] y1 (by simpa [rj] using hg 1 _ rfl) (by omega)
   obtain ⟨v2,A2,c2,e2,h2⟩:=jW (m:=m) H enc w n [a2] y2 (by simpa [eD] using hg 2 _ rfl) (by omega)
   obtain ⟨v3,A3,c3,e3,g3⟩:=qo (m:=m) H enc w n [a3] y3 (by simpa [eD] using hg 3 _ rfl) (by omega)
   obtain ⟨v4,A4,c4,e4,g4⟩:=qo (m:=m) H enc w n [a4] y4 (by simpa [eD] using hg 4 _ rfl) (by omega)
   obtain ⟨h3,k3⟩:=Cj g3
   obtain ⟨h4,k4⟩:=Cj g4
   cases e0
   cases e1
   cases e2
   cases e3
   cases e4
   exact ⟨⟨v0,v1,v2,v3,v4⟩,⟨A0,A1,A2,A3,A4,c0,c1,c2,c3,c4,rfl,h0,h1,h2,h3,h4⟩,k3,k4⟩
theorem zi {m:Nat} (hm:m≤sm):iN m 33 (F0 m):=fun H enc w fuel cs x h hb=>by
 obtain ⟨xs,n,_,rfl,hl,hlen,hg⟩:=DataW.trod_struct underlying33 h
 rw [Cb] at hl
 match xs,hlen with
 | [y0,y1,y2,y3,y4,y5,y6,y7],_=>
  simp only [HL,List.map_nil,Rows.uptoBulk,Rows.uptoBulkAll] at hb
  have p0:=ap y0.1
  have p1:=ap y1.1
  have p2:=ap y2.1
  have p3:=ap y3.1
  have p4:=ap y4.1
  have p5:=ap y5.1
  have p6:=ap y6.1
  have p7:=ap y7.1
  match cs,hl with
  | [a0,a1,a2,a3,a4,a5,a6,a7,a8,a9,a10,a11],_=>
   obtain ⟨v0,A0,c0,e0,h0⟩:=cF (m:=m) (t:=22) (e:=23) (k:=1) underlying22 f8 (by decide) (jV (m:=m)) H enc w n [a0] y0 (by simpa [ze] using hg 0 _ rfl) (by omega)
   obtain ⟨v1,A1,c1,e1,h1⟩:=jV (m:=m) H enc w n [a1] y1 (by simpa [f8] using hg 1 _ rfl) (by omega)
   obtain ⟨v2,A2,c2,e2,h2⟩:=cF (m:=m) (t:=24) (e:=100) (k:=4) underlying24 tP (by decide) (Cg hm) H enc w n [a2] y2 (by simpa [zg] using hg 2 _ rfl) (by omega)
   obtain ⟨v3,A3,c3,e3,h3⟩:=cF (m:=m) (t:=25) (e:=106) (k:=2) underlying25 wG (by decide) (DK hm) H enc w n [a3] y3 (by simpa [Cd] using hg 3 _ rfl) (by omega)
   obtain ⟨v4,A4,c4,e4,h4⟩:=cF (m:=m) (t:=26) (e:=108) (k:=5) underlying26 wH (by decide) (DM hm) H enc w n [a4] y4 (by simpa [Ce] using hg 4 _ rfl) (by omega)
   obtain ⟨v5,A5,c5,e5,h5⟩:=cF (m:=m) (t:=27) (e:=147) (k:=5) underlying27 oq (by decide) (tS hm) H enc w n [a5] y5 (by simpa [qk] using hg 5 _ rfl) (by omega)
   obtain ⟨v6,A6,c6,e6,h6,g6,k6⟩:=f7 (m:=m) (t:=23) (e:=3) (k:=1) underlying23 co (by decide) cm H enc w n [a6] y6 (by simpa [f8] using hg 6 _ rfl) (by omega)
   obtain ⟨v7,⟨A8,A9,A10,A11,A12,c8,c9,c10,c11,c12,e7,s8,s9,s10,s11,DW⟩,kna,knt⟩:=vq hm H enc w n [a7,a8,a9,a10,a11] y7 (by simpa [qh] using hg 7 _ rfl) (by omega)
   cases e0
   cases e1
   cases e2
   cases e3
   cases e4
   cases e5
   cases e6
   cases e7
   exact ⟨⟨v0,v1,v2,v3,v4,v5,v6,v7.nh,v7.nf,v7.nm,v7.na,v7.nt⟩,⟨A0,A1,A2,A3,A4,A5,A6,A8,A9,A10,A11,A12,c0,c1,c2,c3,c4,c5,c6,c8,c9,c10,c11,c12,rfl,⟨h0,h1,h2,h3,h4,h5,h6,s8,s9,s10,s11,DW⟩,g6⟩,kna,knt⟩
theorem zj {m:Nat} (hm:m≤sm):iN m 57 fT:=fun H enc w fuel cs x h hb=>by
 obtain ⟨xs,n,_,rfl,hl,hlen,hg⟩:=DataW.trod_struct underlying57 h
 rw [qm] at hl
 match xs,hlen with
 | [y0,y1,y2,y3,y4],_=>
  simp only [HL,List.map_nil,Rows.uptoBulk,Rows.uptoBulkAll] at hb
  have p0:=ap y0.1
  have p1:=ap y1.1
  have p2:=ap y2.1
  have p3:=ap y3.1
  have p4:=ap y4.1
  match cs,hl with
  | [a0,a1,a2,a3,a4,a5],_=>
   obtain ⟨v0,e0⟩:=cm (m:=m) H enc w n [a0] y0 (by simpa [co] using hg 0 _ rfl) (by omega)
   obtain ⟨v1,A1,c1,e1,h1⟩:=cF (m:=m) (t:=52) (e:=63) (k:=4) underlying52 rh (by decide) (wI hm) H enc w n [a1] y1 (by simpa [tQ] using hg 1 _ rfl) (by omega)
   obtain ⟨v2,e2⟩:=cm (m:=m) H enc w n [a2] y2 (by simpa [co] using hg 2 _ rfl) (by omega)
   obtain ⟨v3,e3⟩:=cm (m:=m) H enc w n [a3] y3 (by simpa [co] using hg 3 _ rfl) (by omega)
   obtain ⟨v4,A4,c4,e4,h4⟩:=wJ hm H enc w n [a4,a5] y4 (by simpa [ri] using hg 4 _ rfl) (by omega)
   cases e0
   cases e1
   cases e2
   cases e3
   cases e4
   exact ⟨⟨v0,v1,v2,v3,v4⟩,A1,c1,A4,c4,rfl,h1,h4⟩
theorem Ck {m:Nat} (hm:m≤sm):iN m 38 fh:=cF (m:=m) (t:=38) (e:=57) (k:=6) underlying38 qm (by decide) (zj hm)
theorem zk {m:Nat} (hm:m≤sm):iN m 34 (oD 1 fh):=cF (m:=m) (t:=34) (e:=38) (k:=1) underlying34 vp (by decide) (Ck hm)
end
end Go.Proofs.YtiebolhmdhdagaaGreatDoor

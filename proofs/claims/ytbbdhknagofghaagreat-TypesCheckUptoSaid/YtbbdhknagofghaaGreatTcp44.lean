import Derived.Test.YtbbdhknagofghaaGreatTcp43
set_option linter.all false
set_option maxHeartbeats 16000000
set_option maxRecDepth 100000
open Go.Proofs.Tryz
namespace Go.Proofs.YtbbdhknagofghaaGreat
open _root_.Go.RowKit.Below renaming refl→Bi
open _root_.Nat renaming le_trans→Bj, le_refl→Bm, zero_le→Bo
open _root_.List renaming getElem?_eq_getElem→Bk, length_append→Bq, length_cons→By, take_zero→Bz, take_of_length_le→BB, cons_append→BC, length_singleton→BG, nil_append→BH, append_assoc→BK, take_succ_eq_append_getElem→BO, length_nil→BV
open Go.RowKit
section
attribute [local go_sem ↓] pX
theorem ed {α:Type} (kind:Int) (l:List α) (g:Nat→α→List It) {k:Nat} (hk:k<l.length):aX kind (l.take (k+1)) g=aX kind (l.take k) g++(⟨kind,(k:Int),0,de⟩::g k l[k]):=by
 unfold aX
 rw [BO hk,List.zipIdx_append,List.flatMap_append]
 simp [List.length_take,Nat.min_eq_left (Nat.le_of_lt hk)]
theorem wm {α:Type} (kind:Int) (l m:List α) (g:Nat→α→List It):(aX kind l g).length≤(aX kind (l++m) g).length:=by
 unfold aX
 rw [List.zipIdx_append,List.flatMap_append,Bq]
 omega
theorem fO {α:Type} (kind:Int) (l:List α) (g:Nat→α→List It) (k:Nat):(aX kind (l.take k) g).length≤(aX kind l g).length:=by
 conv=>rhs;rw [←List.take_append_drop k l]
 exact wm _ _ _ _
theorem dq.base_ {w:World} {base base' B:Nat} {v:Value} {l:List It} (h:dq w base B v l) (hb:base'≤base):dq w base' B v l:=by
 obtain ⟨Z,h1,h2,h3⟩:=h
 refine ⟨Z,h1,h2,h3.1,?_⟩
 rcases h3.2 with h4|⟨g,cap,cur,rfl,hg,r⟩
 ·exact .inl h4
 ·exact .inr ⟨g,cap,cur,rfl,by omega,r⟩
theorem lF (A1 A2 A3 A4 A5 A6 A7:Option Addr) (p:Pg) (c1 c2 c3 c4 c5 c6 c7:Nat) (B:Nat) (w:World) (hB:B≤w.heap.size) (hP:bu w B A1 A2 A3 A4 A5 A6 A7 p) (hbig:(ao p).length≤dd):
  Calls prog 9 #[.agg (aq p A1 A2 A3 A4 A5 A6 A7 c1 c2 c3 c4 c5 c6 c7)] w fun e w'=>∃ v,e=.returned v∧dq w' w.heap.size B v (ao p)∧Below w.heap.size w w':=by
 unfold aq
 have l1:=hP.1.len
 have l2:=hP.2.len
 have l3:=hP.3.len
 have l4:=hP.4.len
 have l5:=hP.5.len
 have l6:=hP.6.len
 have l7:=hP.7.len
 obtain ⟨wb,hwb,hsz,hba,hcb,-⟩:=al w (aq p A1 A2 A3 A4 A5 A6 A7 c1 c2 c3 c4 c5 c6 c7) 30
 obtain ⟨y0,y1,y2,y3,y4,y5,y6⟩:=aF (w:=wb) (a:=w.heap.size) fun i=>hcb i
 have hb0:Below wb.heap.size wb wb:=Bi _ _
 have hBk:=aa (show ∀ W,Below wb.heap.size wb W→Below w.heap.size w W from fun W hb=>hba.trans (hb.mono (by omega)))
 have hBb:B≤wb.heap.size:=by omega
 have hbs:w.heap.size≤wb.heap.size:=by omega
 have hlz:w.heap.size<wb.heap.size:=by omega
 have hP2:=aa (hP.below (hba.mono hB))
 have hlen:(aC p).length+((aG p).length+((aE p).length+((bD p).length+((bW p).length+((am (-1) p.control).length+(cP p).length)))))≤100000000:=by
  have:=hbig
  unfold ao dd at this
  simpa only [Bq] using this
 have hfin:=aa (show ao p=aC p++(aG p++(aE p++(bD p++(bW p++(am (-1) p.control++cP p))))) from rfl)
 clear hcb hba hP hbig
 replace hsz:=aa hsz
 go_enter func9,ntmps9
 go_wp2
 obtain ⟨PRE,hPRE⟩:∃ PRE:List It,PRE= []:=⟨_,rfl⟩
 have hpre:=aa (show PRE.length=0 from by rw [hPRE];rfl)
 obtain ⟨T,hT⟩:∃ T:List It,T=aC p++(aG p++(aE p++(bD p++(bW p++(am (-1) p.control++cP p))))):=⟨_,rfl⟩
 have hfold:=aa (show T=PRE++(aC p++(aG p++(aE p++(bD p++(bW p++(am (-1) p.control++cP p)))))) from by rw [hPRE,hT];rfl)
 replace hfin:=aa (hfin.out.trans hT.symm)
 clear hT
 have hR0:=aa (show dq wb wb.heap.size B (.slice none 0 0) PRE from by rw [hPRE];exact dq.nil_ _ _ _)
 have hbr0:=aa hb0
 clear hb0 hPRE
 go_loopw [3,4] (fun v i wr=>∃ k:Nat,k≤p.headers.length∧i=.int .i64 k∧Hid (dq wr wb.heap.size B v (PRE++aX 1 (p.headers.take k) (fun i h=>aR 2 i h.fields.length)))∧Hid (Below wb.heap.size wb wr)) (fun _ i _=>p.headers.length-(intOf i).toNat)
 case atStart=>exact ⟨0,Bo _,rfl,aa (by rw [Bz];simpa [aX] using hR0.out),hbr0⟩
 case round=>
  clear hR0 hbr0
  obtain ⟨k,hk,rfl,hR,hbr⟩:=hrel
  have hc:=ab hbr.out
  by_cases hlt:k<p.headers.length
  ·have hltz:(k:Int)<(p.headers.length:Int):=by omega
   have hst:=ed 1 p.headers (fun i h=>aR 2 i h.fields.length) hlt
   have hle:=fO 1 p.headers (fun i h=>aR 2 i h.fields.length) (k+1)
   rw [hst,Bq,By] at hle
   change _≤(aC p).length at hle
   have hpl:=hpre.out
   obtain ⟨b,o,ecs,hA,hb,hel,hcell,B1,d1,rfl,hn,hF⟩:=hP2.out.headers.2 k _ (Bk hlt)
   have hAs:=hA
   subst hA
   have x0:wb.cell? ⟨b,o+k*2,none⟩=some (.string p.headers[k].name):=by simpa using hcell 0 _ rfl
   have x1:wb.cell? ⟨b,o+k*2+1,none⟩=some (.slice B1 p.headers[k].fields.length d1):=hcell 1 _ rfl
   have hbw:b<wb.heap.size:=by omega
   have m0:=hF.len
   try simp only [aj] at hle
   have hst':=aa hst
   have hq:(PRE++aX 1 (p.headers.take k) (fun i h=>aR 2 i h.fields.length)).length≤100000000-1-(p.headers[k].fields.length):=by
    rw [Bq]
    omega
   clear hst hcell
   generalize aX 1 (p.headers.take k) (fun i h=>aR 2 i h.fields.length)=E at*
   generalize hM:PRE++E=M at hR hq
   replace hM:=aa hM
   clear hF
   obtain ⟨v1,w1,hr1,hI1,hw1⟩:=cU 1 (k:Int) 0 hR.out hBb hbr.out.size (by show _≤100000000;first|omega|(simp only [Bq,BG,aj];omega))
   have hb1:=aa (hbr.out.trans hw1)
   replace hI1:=aa hI1
   clear hw1
   have hM2:=aa (ea 2 k p.headers[k].fields.length B _ (Bj hBb hb1.out.size) (by show _≤100000000;omega))
   have hc2:=ab hb1.out
   go_wp2_with fail
   refine hM2.out.mono ?_
   rintro _ w2 ⟨v2,rfl,hI2,hw2⟩
   obtain ⟨v3,w3,hr3,hI3,hw3⟩:=cL (hI1.out.below hw2 (Bm _) (Bj hBb hb1.out.size)) hI2 hBb (Bj hb1.out.size hw2.size) (by show _≤100000000;first|omega|(simp only [Bq,BG,aj];omega)) (by show _≤100000000;first|omega|(simp only [aj];omega))
   have hb3:=aa ((hb1.out.trans (hw2.mono hb1.out.size)).trans hw3)
   replace hI3:=aa hI3
   clear hw2 hw3 hI2 hM2 hc2
   have hcz:=ab hb3.out
   have hIz:=aa (show dq _ wb.heap.size B _ (PRE++aX 1 (p.headers.take (k+1)) (fun i h=>aR 2 i h.fields.length)) from by
    rw [hst'.out,←BK,hM.out]
    have:=hI3.out
    try simp only [BK,List.singleton_append,BC,BH] at this ⊢
    exact this)
   have hbz:=hb3
   clear hst'
   go_wp2
   go_roundw
   case rel=>exact ⟨k+1,by omega,by go_num,hIz,hbz⟩
   case measure=>simp [intOf];omega
  ·have hR0:=aa (show dq wr wb.heap.size B _ (PRE++aC p) from by have:=hR.out;rw [BB (by omega)] at this;exact this)
   have hbr0:=hbr
   clear hR hbr
   go_wp2
   clear hlt hk
   have hpre1:=aa (show (PRE++aC p).length=0+(aC p).length from by rw [Bq,hpre.out];try omega)
   have hfold1:=aa (hfold.out.trans (BK PRE (aC p) _).symm)
   clear hpre hfold
   have hpre:=hpre1
   have hfold:=hfold1
   clear hpre1 hfold1
   generalize PRE++aC p=PRE at hR0 hpre hfold
   generalize k=k0 at*
   go_loopw [3,5] (fun v i wr=>∃ k:Nat,k≤p.metas.length∧i=.int .i64 k∧Hid (dq wr wb.heap.size B v (PRE++aX 3 (p.metas.take k) (fun _ _=> [])))∧Hid (Below wb.heap.size wb wr)) (fun _ i _=>p.metas.length-(intOf i).toNat)
   case atStart=>exact ⟨0,Bo _,rfl,aa (by rw [Bz];simpa [aX] using hR0.out),hbr0⟩
   case round=>
    clear hR0 hbr0
    obtain ⟨k,hk,rfl,hR,hbr⟩:=hrel
    have hc:=ab hbr.out
    by_cases hlt:k<p.metas.length
    ·have hltz:(k:Int)<(p.metas.length:Int):=by omega
     have hst:=ed 3 p.metas (fun _ _=> []) hlt
     have hle:=fO 3 p.metas (fun _ _=> []) (k+1)
     rw [hst,Bq,By] at hle
     change _≤(aG p).length at hle
     have hpl:=hpre.out
     try simp only [BV] at hle
     have hst':=aa hst
     have hq:(PRE++aX 3 (p.metas.take k) (fun _ _=> [])).length≤100000000-1-(0):=by
      rw [Bq]
      omega
     clear hst
     generalize aX 3 (p.metas.take k) (fun _ _=> [])=E at*
     generalize hM:PRE++E=M at hR hq
     replace hM:=aa hM
     obtain ⟨v1,w1,hr1,hI1,hw1⟩:=cU 3 (k:Int) 0 hR.out hBb hbr.out.size (by show _≤100000000;first|omega|(simp only [Bq,BG,aj];omega))
     have hb1:=aa (hbr.out.trans hw1)
     replace hI1:=aa hI1
     clear hw1
     have hcz:=ab hb1.out
     have hIz:=aa (show dq _ wb.heap.size B _ (PRE++aX 3 (p.metas.take (k+1)) (fun _ _=> [])) from by
      rw [hst'.out,←BK,hM.out]
      have:=hI1.out
      try simp only [BK,List.singleton_append,BC,BH] at this ⊢
      exact this)
     have hbz:=hb1
     clear hst'
     go_wp2
     go_roundw
     case rel=>exact ⟨k+1,by omega,by go_num,hIz,hbz⟩
     case measure=>simp [intOf];omega
    ·have hR0:=aa (show dq wr wb.heap.size B _ (PRE++aG p) from by have:=hR.out;rw [BB (by omega)] at this;exact this)
     have hbr0:=hbr
     clear hR hbr
     go_wp2
     clear hlt hk
     have hpre1:=aa (show (PRE++aG p).length=(aC p).length+(aG p).length from by rw [Bq,hpre.out];try omega)
     have hfold1:=aa (hfold.out.trans (BK PRE (aG p) _).symm)
     clear hpre hfold
     have hpre:=hpre1
     have hfold:=hfold1
     clear hpre1 hfold1
     generalize PRE++aG p=PRE at hR0 hpre hfold
     generalize k=k1 at*
     go_loopw [3,6] (fun v i wr=>∃ k:Nat,k≤p.states.length∧i=.int .i64 k∧Hid (dq wr wb.heap.size B v (PRE++aX 4 (p.states.take k) (fun i s=>aR 5 i s.takes.length++(⟨6,(i:Int),0,de⟩::aR 7 i s.cases_.length))))∧Hid (Below wb.heap.size wb wr)) (fun _ i _=>p.states.length-(intOf i).toNat)
     case atStart=>exact ⟨0,Bo _,rfl,aa (by rw [Bz];simpa [aX] using hR0.out),hbr0⟩
     case round=>
      clear hR0 hbr0
      obtain ⟨k,hk,rfl,hR,hbr⟩:=hrel
      have hc:=ab hbr.out
      by_cases hlt:k<p.states.length
      ·have hltz:(k:Int)<(p.states.length:Int):=by omega
       have hst:=ed 4 p.states (fun i s=>aR 5 i s.takes.length++(⟨6,(i:Int),0,de⟩::aR 7 i s.cases_.length)) hlt
       have hle:=fO 4 p.states (fun i s=>aR 5 i s.takes.length++(⟨6,(i:Int),0,de⟩::aR 7 i s.cases_.length)) (k+1)
       rw [hst,Bq,By] at hle
       change _≤(aE p).length at hle
       have hpl:=hpre.out
       obtain ⟨b,o,ecs,hA,hb,hel,hcell,B1,d1,B2,d2,B3,d3,rfl,hn,hd,hF,hG,hH⟩:=hP2.out.states.2 k _ (Bk hlt)
       have hAs:=hA
       subst hA
       obtain ⟨x0,x1,x2,x3,x4⟩:=cN hcell
       have hbw:b<wb.heap.size:=by omega
       have m0:=hF.len
       have m1:=hG.len
       have m2:=hH.len
       try simp only [Bq,By,aj] at hle
       have hst':=aa hst
       have hq:(PRE++aX 4 (p.states.take k) (fun i s=>aR 5 i s.takes.length++(⟨6,(i:Int),0,de⟩::aR 7 i s.cases_.length))).length≤100000000-1-(p.states[k].takes.length+p.states[k].cases_.length+1):=by
        rw [Bq]
        omega
       clear hst hcell
       generalize aX 4 (p.states.take k) (fun i s=>aR 5 i s.takes.length++(⟨6,(i:Int),0,de⟩::aR 7 i s.cases_.length))=E at*
       generalize hM:PRE++E=M at hR hq
       replace hM:=aa hM
       clear hF hG hH
       obtain ⟨v1,w1,hr1,hI1,hw1⟩:=cU 4 (k:Int) 0 hR.out hBb hbr.out.size (by show _≤100000000;first|omega|(simp only [Bq,BG,aj];omega))
       have hb1:=aa (hbr.out.trans hw1)
       replace hI1:=aa hI1
       clear hw1
       have hM2:=aa (ea 5 k p.states[k].takes.length B _ (Bj hBb hb1.out.size) (by show _≤100000000;omega))
       have hc2:=ab hb1.out
       go_wp2_with fail
       refine hM2.out.mono ?_
       rintro _ w2 ⟨v2,rfl,hI2,hw2⟩
       obtain ⟨v3,w3,hr3,hI3,hw3⟩:=cL (hI1.out.below hw2 (Bm _) (Bj hBb hb1.out.size)) hI2 hBb (Bj hb1.out.size hw2.size) (by show _≤100000000;first|omega|(simp only [Bq,BG,aj];omega)) (by show _≤100000000;first|omega|(simp only [aj];omega))
       have hb3:=aa ((hb1.out.trans (hw2.mono hb1.out.size)).trans hw3)
       replace hI3:=aa hI3
       clear hw2 hw3 hI2 hM2 hc2
       obtain ⟨v4,w4,hr4,hI4,hw4⟩:=cU 6 (k:Int) 0 hI3.out hBb hb3.out.size (by show _≤100000000;first|omega|(simp only [Bq,BG,aj];omega))
       have hb4:=aa (hb3.out.trans hw4)
       replace hI4:=aa hI4
       clear hw4
       have hM5:=aa (ea 7 k p.states[k].cases_.length B _ (Bj hBb hb4.out.size) (by show _≤100000000;omega))
       have hc5:=ab hb4.out
       go_wp2_with fail
       refine hM5.out.mono ?_
       rintro _ w5 ⟨v5,rfl,hI5,hw5⟩
       obtain ⟨v6,w6,hr6,hI6,hw6⟩:=cL (hI4.out.below hw5 (Bm _) (Bj hBb hb4.out.size)) hI5 hBb (Bj hb4.out.size hw5.size) (by show _≤100000000;first|omega|(simp only [Bq,BG,aj];omega)) (by show _≤100000000;first|omega|(simp only [aj];omega))
       have hb6:=aa ((hb4.out.trans (hw5.mono hb4.out.size)).trans hw6)
       replace hI6:=aa hI6
       clear hw5 hw6 hI5 hM5 hc5
       have hcz:=ab hb6.out
       have hIz:=aa (show dq _ wb.heap.size B _ (PRE++aX 4 (p.states.take (k+1)) (fun i s=>aR 5 i s.takes.length++(⟨6,(i:Int),0,de⟩::aR 7 i s.cases_.length))) from by
        rw [hst'.out,←BK,hM.out]
        have:=hI6.out
        try simp only [BK,List.singleton_append,BC,BH] at this ⊢
        exact this)
       have hbz:=hb6
       clear hst'
       go_wp2
       go_roundw
       case rel=>exact ⟨k+1,by omega,by go_num,hIz,hbz⟩
       case measure=>simp [intOf];omega
      ·have hR0:=aa (show dq wr wb.heap.size B _ (PRE++aE p) from by have:=hR.out;rw [BB (by omega)] at this;exact this)
       have hbr0:=hbr
       clear hR hbr
       go_wp2
       clear hlt hk
       have hpre1:=aa (show (PRE++aE p).length=(aC p).length+(aG p).length+(aE p).length from by rw [Bq,hpre.out];try omega)
       have hfold1:=aa (hfold.out.trans (BK PRE (aE p) _).symm)
       clear hpre hfold
       have hpre:=hpre1
       have hfold:=hfold1
       clear hpre1 hfold1
       generalize PRE++aE p=PRE at hR0 hpre hfold
       generalize k=k2 at*
       go_loopw [3,7] (fun v i wr=>∃ k:Nat,k≤p.actions.length∧i=.int .i64 k∧Hid (dq wr wb.heap.size B v (PRE++aX 8 (p.actions.take k) (fun i a=>aR 9 i a.params.length++am i a.body)))∧Hid (Below wb.heap.size wb wr)) (fun _ i _=>p.actions.length-(intOf i).toNat)
       case atStart=>exact ⟨0,Bo _,rfl,aa (by rw [Bz];simpa [aX] using hR0.out),hbr0⟩
       case round=>
        clear hR0 hbr0
        obtain ⟨k,hk,rfl,hR,hbr⟩:=hrel
        have hc:=ab hbr.out
        by_cases hlt:k<p.actions.length
        ·have hltz:(k:Int)<(p.actions.length:Int):=by omega
         have hst:=ed 8 p.actions (fun i a=>aR 9 i a.params.length++am i a.body) hlt
         have hle:=fO 8 p.actions (fun i a=>aR 9 i a.params.length++am i a.body) (k+1)
         rw [hst,Bq,By] at hle
         change _≤(bD p).length at hle
         have hpl:=hpre.out
         obtain ⟨b,o,ecs,hA,hb,hel,hcell,B1,d1,B2,d2,rfl,hn,hF,hG⟩:=hP2.out.actions.2 k _ (Bk hlt)
         have hAs:=hA
         subst hA
         obtain ⟨x0,x1,x2⟩:=dl hcell
         have hbw:b<wb.heap.size:=by omega
         have m0:=hF.len
         have m1:=hG.len
         have hSt:=aa hG
         try simp only [Bq,aj] at hle
         have hst':=aa hst
         have hq:(PRE++aX 8 (p.actions.take k) (fun i a=>aR 9 i a.params.length++am i a.body)).length≤100000000-1-(p.actions[k].params.length+(am k p.actions[k].body).length):=by
          rw [Bq]
          omega
         clear hst hcell
         generalize aX 8 (p.actions.take k) (fun i a=>aR 9 i a.params.length++am i a.body)=E at*
         generalize hM:PRE++E=M at hR hq
         replace hM:=aa hM
         clear hF hG
         obtain ⟨v1,w1,hr1,hI1,hw1⟩:=cU 8 (k:Int) 0 hR.out hBb hbr.out.size (by show _≤100000000;first|omega|(simp only [Bq,BG,aj];omega))
         have hb1:=aa (hbr.out.trans hw1)
         replace hI1:=aa hI1
         clear hw1
         have hM2:=aa (ea 9 k p.actions[k].params.length B _ (Bj hBb hb1.out.size) (by show _≤100000000;omega))
         have hc2:=ab hb1.out
         go_wp2_with fail
         refine hM2.out.mono ?_
         rintro _ w2 ⟨v2,rfl,hI2,hw2⟩
         obtain ⟨v3,w3,hr3,hI3,hw3⟩:=cL (hI1.out.below hw2 (Bm _) (Bj hBb hb1.out.size)) hI2 hBb (Bj hb1.out.size hw2.size) (by show _≤100000000;first|omega|(simp only [Bq,BG,aj];omega)) (by show _≤100000000;first|omega|(simp only [aj];omega))
         have hb3:=aa ((hb1.out.trans (hw2.mono hb1.out.size)).trans hw3)
         replace hI3:=aa hI3
         clear hw2 hw3 hI2 hM2 hc2
         have hM4:=aa (lE p.actions[k].body (k:Int) _ d2 _ B (Bj hBb hb3.out.size) (hSt.out.below be (hb3.out.mono hBb)) (by show _≤100000000;omega))
         have hc4:=ab hb3.out
         go_wp2_with fail
         refine hM4.out.mono ?_
         rintro _ w4 ⟨v4,rfl,hI4,hw4⟩
         obtain ⟨v5,w5,hr5,hI5,hw5⟩:=cL (hI3.out.below hw4 (Bm _) (Bj hBb hb3.out.size)) hI4 hBb (Bj hb3.out.size hw4.size) (by show _≤100000000;first|omega|(simp only [Bq,BG,aj];omega)) (by show _≤100000000;first|omega|(simp only [aj];omega))
         have hb5:=aa ((hb3.out.trans (hw4.mono hb3.out.size)).trans hw5)
         replace hI5:=aa hI5
         clear hw4 hw5 hI4 hM4 hc4
         have hcz:=ab hb5.out
         have hIz:=aa (show dq _ wb.heap.size B _ (PRE++aX 8 (p.actions.take (k+1)) (fun i a=>aR 9 i a.params.length++am i a.body)) from by
          rw [hst'.out,←BK,hM.out]
          have:=hI5.out
          try simp only [BK,List.singleton_append,BC,BH] at this ⊢
          exact this)
         have hbz:=hb5
         clear hst'
         go_wp2
         go_roundw
         case rel=>exact ⟨k+1,by omega,by go_num,hIz,hbz⟩
         case measure=>simp [intOf];omega
        ·have hR0:=aa (show dq wr wb.heap.size B _ (PRE++bD p) from by have:=hR.out;rw [BB (by omega)] at this;exact this)
         have hbr0:=hbr
         clear hR hbr
         go_wp2
         clear hlt hk
         have hpre1:=aa (show (PRE++bD p).length=(aC p).length+(aG p).length+(aE p).length+(bD p).length from by rw [Bq,hpre.out];try omega)
         have hfold1:=aa (hfold.out.trans (BK PRE (bD p) _).symm)
         clear hpre hfold
         have hpre:=hpre1
         have hfold:=hfold1
         clear hpre1 hfold1
         generalize PRE++bD p=PRE at hR0 hpre hfold
         generalize k=k3 at*
         go_loopw [3,8] (fun v i wr=>∃ k:Nat,k≤p.tables.length∧i=.int .i64 k∧Hid (dq wr wb.heap.size B v (PRE++aX 11 (p.tables.take k) (fun i t=>aR 12 i t.keys.length++(aR 13 i t.actions.length++ [⟨14,(i:Int),0,de⟩]))))∧Hid (Below wb.heap.size wb wr)) (fun _ i _=>p.tables.length-(intOf i).toNat)
         case atStart=>exact ⟨0,Bo _,rfl,aa (by rw [Bz];simpa [aX] using hR0.out),hbr0⟩
         case round=>
          clear hR0 hbr0
          obtain ⟨k,hk,rfl,hR,hbr⟩:=hrel
          have hc:=ab hbr.out
          by_cases hlt:k<p.tables.length
          ·have hltz:(k:Int)<(p.tables.length:Int):=by omega
           have hst:=ed 11 p.tables (fun i t=>aR 12 i t.keys.length++(aR 13 i t.actions.length++ [⟨14,(i:Int),0,de⟩])) hlt
           have hle:=fO 11 p.tables (fun i t=>aR 12 i t.keys.length++(aR 13 i t.actions.length++ [⟨14,(i:Int),0,de⟩])) (k+1)
           rw [hst,Bq,By] at hle
           change _≤(bW p).length at hle
           have hpl:=hpre.out
           obtain ⟨b,o,ecs,hA,hb,hel,hcell,B1,d1,B2,d2,B3,d3,rfl,hn,hd,hF,hG,hH⟩:=hP2.out.tables.2 k _ (Bk hlt)
           have hAs:=hA
           subst hA
           obtain ⟨x0,x1,x2,x3,x4⟩:=cN hcell
           have hbw:b<wb.heap.size:=by omega
           have m0:=hF.len
           have m1:=hG.len
           have m2:=hH.len
           try simp only [Bq,BG,aj] at hle
           have hst':=aa hst
           have hq:(PRE++aX 11 (p.tables.take k) (fun i t=>aR 12 i t.keys.length++(aR 13 i t.actions.length++ [⟨14,(i:Int),0,de⟩]))).length≤100000000-1-(p.tables[k].keys.length+p.tables[k].actions.length+1):=by
            rw [Bq]
            omega
           clear hst hcell
           generalize aX 11 (p.tables.take k) (fun i t=>aR 12 i t.keys.length++(aR 13 i t.actions.length++ [⟨14,(i:Int),0,de⟩]))=E at*
           generalize hM:PRE++E=M at hR hq
           replace hM:=aa hM
           clear hF hG hH
           obtain ⟨v1,w1,hr1,hI1,hw1⟩:=cU 11 (k:Int) 0 hR.out hBb hbr.out.size (by show _≤100000000;first|omega|(simp only [Bq,BG,aj];omega))
           have hb1:=aa (hbr.out.trans hw1)
           replace hI1:=aa hI1
           clear hw1
           have hM2:=aa (ea 12 k p.tables[k].keys.length B _ (Bj hBb hb1.out.size) (by show _≤100000000;omega))
           have hc2:=ab hb1.out
           go_wp2_with fail
           refine hM2.out.mono ?_
           rintro _ w2 ⟨v2,rfl,hI2,hw2⟩
           obtain ⟨v3,w3,hr3,hI3,hw3⟩:=cL (hI1.out.below hw2 (Bm _) (Bj hBb hb1.out.size)) hI2 hBb (Bj hb1.out.size hw2.size) (by show _≤100000000;first|omega|(simp only [Bq,BG,aj];omega)) (by show _≤100000000;first|omega|(simp only [aj];omega))
           have hb3:=aa ((hb1.out.trans (hw2.mono hb1.out.size)).trans hw3)
           replace hI3:=aa hI3
           clear hw2 hw3 hI2 hM2 hc2
           have hM4:=aa (ea 13 k p.tables[k].actions.length B _ (Bj hBb hb3.out.size) (by show _≤100000000;omega))
           have hc4:=ab hb3.out
           go_wp2_with fail
           refine hM4.out.mono ?_
           rintro _ w4 ⟨v4,rfl,hI4,hw4⟩
           obtain ⟨v5,w5,hr5,hI5,hw5⟩:=cL (hI3.out.below hw4 (Bm _) (Bj hBb hb3.out.size)) hI4 hBb (Bj hb3.out.size hw4.size) (by show _≤100000000;first|omega|(simp only [Bq,BG,aj];omega)) (by show _≤100000000;first|omega|(simp only [aj];omega))
           have hb5:=aa ((hb3.out.trans (hw4.mono hb3.out.size)).trans hw5)
           replace hI5:=aa hI5
           clear hw4 hw5 hI4 hM4 hc4
           obtain ⟨v6,w6,hr6,hI6,hw6⟩:=cU 14 (k:Int) 0 hI5.out hBb hb5.out.size (by show _≤100000000;first|omega|(simp only [Bq,BG,aj];omega))
           have hb6:=aa (hb5.out.trans hw6)
           replace hI6:=aa hI6
           clear hw6
           have hcz:=ab hb6.out
           have hIz:=aa (show dq _ wb.heap.size B _ (PRE++aX 11 (p.tables.take (k+1)) (fun i t=>aR 12 i t.keys.length++(aR 13 i t.actions.length++ [⟨14,(i:Int),0,de⟩]))) from by
            rw [hst'.out,←BK,hM.out]
            have:=hI6.out
            try simp only [BK,List.singleton_append,BC,BH] at this ⊢
            exact this)
           have hbz:=hb6
           clear hst'
           go_wp2
           go_roundw
           case rel=>exact ⟨k+1,by omega,by go_num,hIz,hbz⟩
           case measure=>simp [intOf];omega
          ·have hR0:=aa (show dq wr wb.heap.size B _ (PRE++bW p) from by have:=hR.out;rw [BB (by omega)] at this;exact this)
           have hbr0:=hbr
           clear hR hbr
           go_wp2_with fail
           clear hlt hk
           have hpre1:=aa (show (PRE++bW p).length=(aC p).length+(aG p).length+(aE p).length+(bD p).length+(bW p).length from by rw [Bq,hpre.out];try omega)
           have hfold1:=aa (hfold.out.trans (BK PRE (bW p) _).symm)
           clear hpre hfold
           have hpre:=hpre1
           have hfold:=hfold1
           clear hpre1 hfold1
           generalize PRE++bW p=PRE at hR0 hpre hfold
           generalize k=k4 at*
           have hSt:=aa hP2.out.control
           have hpl:=hpre.out
           have hM1:=aa (lE p.control (-1) _ c6 _ B (Bj hBb hbr0.out.size) (hSt.out.below be (hbr0.out.mono hBb)) (by show _≤100000000;omega))
           have hc1:=ab hbr0.out
           refine hM1.out.mono ?_
           rintro _ w1 ⟨v1,rfl,hI1,hw1⟩
           obtain ⟨v2,w2,hr2,hI2,hw2⟩:=cL (hR0.out.below hw1 (Bm _) (Bj hBb hbr0.out.size)) hI1 hBb (Bj hbr0.out.size hw1.size) (by show _≤100000000;first|omega|(simp only [Bq,BG,aj];omega)) (by show _≤100000000;first|omega|(simp only [aj];omega))
           have hb2:=aa ((hbr0.out.trans (hw1.mono hbr0.out.size)).trans hw2)
           replace hI2:=aa hI2
           clear hw1 hw2 hI1 hM1 hc1
           have hcz:=ab hb2.out
           have hR0:=hI2
           have hbr0:=hb2
           replace hpre:=aa (show _=_ from (by rw [Bq,hpre.out]:(PRE++am (-1) p.control).length=_))
           have hpre2:=aa (hfold.out.trans (BK PRE (am (-1) p.control) _).symm)
           replace hfold:=hpre2
           clear hpre2 hSt hI2 hb2 hcz
           generalize PRE++am (-1) p.control=PRE at hR0 hpre hfold
           go_wp2
           go_loopw [3,9] (fun v i wr=>∃ k:Nat,k≤p.emit.length∧i=.int .i64 k∧Hid (dq wr wb.heap.size B v (PRE++aX 15 (p.emit.take k) (fun _ _=> [])))∧Hid (Below wb.heap.size wb wr)) (fun _ i _=>p.emit.length-(intOf i).toNat)
           case atStart=>exact ⟨0,Bo _,rfl,aa (by rw [Bz];simpa [aX] using hR0.out),hbr0⟩
           case round=>
            clear hR0 hbr0
            obtain ⟨k,hk,rfl,hR,hbr⟩:=hrel
            have hc:=ab hbr.out
            by_cases hlt:k<p.emit.length
            ·have hltz:(k:Int)<(p.emit.length:Int):=by omega
             have hst:=ed 15 p.emit (fun _ _=> []) hlt
             have hle:=fO 15 p.emit (fun _ _=> []) (k+1)
             rw [hst,Bq,By] at hle
             change _≤(cP p).length at hle
             have hpl:=hpre.out
             try simp only [BV] at hle
             have hst':=aa hst
             have hq:(PRE++aX 15 (p.emit.take k) (fun _ _=> [])).length≤100000000-1-(0):=by
              rw [Bq]
              omega
             clear hst
             generalize aX 15 (p.emit.take k) (fun _ _=> [])=E at*
             generalize hM:PRE++E=M at hR hq
             replace hM:=aa hM
             obtain ⟨v1,w1,hr1,hI1,hw1⟩:=cU 15 (k:Int) 0 hR.out hBb hbr.out.size (by show _≤100000000;first|omega|(simp only [Bq,BG,aj];omega))
             have hb1:=aa (hbr.out.trans hw1)
             replace hI1:=aa hI1
             clear hw1
             have hcz:=ab hb1.out
             have hIz:=aa (show dq _ wb.heap.size B _ (PRE++aX 15 (p.emit.take (k+1)) (fun _ _=> [])) from by
              rw [hst'.out,←BK,hM.out]
              have:=hI1.out
              try simp only [BK,List.singleton_append,BC,BH] at this ⊢
              exact this)
             have hbz:=hb1
             clear hst'
             go_wp2
             go_roundw
             case rel=>exact ⟨k+1,by omega,by go_num,hIz,hbz⟩
             case measure=>simp [intOf];omega
            ·have hR0:=aa (show dq wr wb.heap.size B _ (PRE++cP p) from by have:=hR.out;rw [BB (by omega)] at this;exact this)
             have hbr0:=hbr
             have hz:=hBk.out _ hbr.out
             go_wp2
             go_ret
             exact ⟨_,rfl,by rw [hfin.out,hfold.out];exact hR0.out.base_ hbs,hz⟩
end
end Go.Proofs.YtbbdhknagofghaaGreat

import Derived.Test.YtijcdfdbkffiaaaGreatDoorCbp15
set_option linter.all false
set_option maxHeartbeats 4000000
set_option maxRecDepth 100000
open Go.Proofs.Tryz
namespace Go.Proofs.YtijcdfdbkffiaaaGreatDoor
open _root_.Nat renaming lt_of_lt_of_le→Hr, le_refl→Ht, le_trans→Hw, zero_le→Hz, le_of_lt→HL, lt_succ_self→HV, lt_trans→HW
open _root_.Go.RowKit.Below renaming refl→Hs
open _root_.Bool renaming and_eq_true→Hy
open _root_.List renaming getElem?_eq_getElem→HA, mem_append→HZ, take_length→H7, take_succ_eq_append_getElem→H9
open _root_.Option renaming bind_some→HP
open _root_.Array renaming getElem?_eq_some_iff→Ir
open Go.RowKit
section
attribute [local go_sem] run_panic_iface
attribute [local go_sem ↓] cH
def rE (p:Lp) (t:fJ):List Int:=t.keys.map fun c=>(eO p (-1) c).getD 0
theorem Ed {p:Lp} {t:fJ} {i:Nat} (h:i<t.keys.length):(rE p t)[i]? =some (qp p t i):=by
 unfold rE qp
 rw [List.getElem?_map,HA h];rfl
theorem kK (p:Lp) (t:fJ):(rE p t).length=t.keys.length:=by unfold rE;simp
theorem cz.grgE {w w':World} {g:Nat} (A1 A2 A3 A4 A5 A6 A7 A8 A9 A10 A11 A12:Option Addr) (p:Lp) (c1 c2 c3 c4 c5 c6 c7 c8 c9 c10 c11 c12:Nat) (h:cz w g A1 A2 A3 A4 A5 A6 A7 A8 A9 A10 A11 A12 p) (hG:aE g w w') (hg:g<w.heap.size):cz w' g A1 A2 A3 A4 A5 A6 A7 A8 A9 A10 A11 A12 p:=h.keep fun a ha=>World.cell?_of_block (hG.blk (HW ha hg) (Nat.ne_of_lt ha))
theorem Sl.grgE {α:Type} {k:Nat} {R:CR α} {w w':World} {g:Nat} {A:Option Addr} {xs:List α} (hs:f7 R) (h:Sl k R w g A xs) (hG:aE g w w') (hg:g<w.heap.size):Sl k R w' g A xs:=h.keep hs fun a ha=>World.cell?_of_block (hG.blk (HW ha hg) (Nat.ne_of_lt ha))
theorem bq.cells13 {w:World} {g:Nat} {l:List Tk} {v0 v1 v2 v3 v4 v5 v6 v7 v8 v9 v10 v11 v12:Value} (h:bq w g l #[v0,v1,v2,v3,v4,v5,v6,v7,v8,v9,v10,v11,v12]):
  w.cell? ⟨g,0,none⟩=some v0∧w.cell? ⟨g,1,none⟩=some v1∧w.cell? ⟨g,2,none⟩=some v2∧w.cell? ⟨g,3,none⟩=some v3∧w.cell? ⟨g,4,none⟩=some v4∧w.cell? ⟨g,5,none⟩=some v5∧w.cell? ⟨g,6,none⟩=some v6∧w.cell? ⟨g,7,none⟩=some v7∧w.cell? ⟨g,8,none⟩=some v8∧w.cell? ⟨g,9,none⟩=some v9∧w.cell? ⟨g,10,none⟩=some v10∧w.cell? ⟨g,11,none⟩=some v11∧w.cell? ⟨g,12,none⟩=some v12:=
 ⟨h.cellV (by decide),h.cellV (by decide),h.cellV (by decide),h.cellV (by decide),h.cellV (by decide),h.cellV (by decide),h.cellV (by decide),h.cellV (by decide),h.cellV (by decide),h.cellV (by decide),h.cellV (by decide),h.cellV (by decide),h.cellV (by decide)⟩
theorem AI (A1 A2 A3 A4 A5 A6 A7 A8 A9 A10 A11 A12:Option Addr) (p:Lp) (c1 c2 c3 c4 c5 c6 c7 c8 c9 c10 c11 c12:Nat) (SW:Value) (t:fJ) (Q1 Q2 Q3 Q4:Option Addr) (q1 q2 q3 q4:Nat) {g:Nat} {l:List Tk} (w:World) (h:bq w g l #[.slice A1 p.heads.length c1,.slice A2 p.metas.length c2,.slice A3 p.steps.length c3,.slice A4 p.acts.length c4,.slice A5 p.tabs.length c5,.slice A6 p.control.length c6,.slice A7 p.emit.length c7,.slice A8 p.nh.length c8,.slice A9 p.nf.length c9,.slice A10 p.nm.length c10,.slice A11 p.na.length c11,.slice A12 p.nt.length c12,SW]) (hP:cz w g A1 A2 A3 A4 A5 A6 A7 A8 A9 A10 A11 A12 p) (hk:Sl 1 pT w g Q1 t.keys) (h1000:t.keys.length≤1000):
  Calls prog 190 #[.pointer (some ⟨g,0,none⟩),.agg #[.slice Q1 t.keys.length q1,.slice Q2 t.kinds.length q2,.slice Q3 t.acts.length q3,.int .i64 t.run.act,.slice Q4 t.run.args.length q4]] w fun e w'=>∃ v,e=.returned v∧oh w' w.heap.size v (rE p t)∧Below w.heap.size w w':=by
 have lt:=h.lt
 have hkl:=hk.len
 obtain ⟨wa,hwa,hsa,hba,hca,-⟩:=af w #[.slice Q1 t.keys.length q1,.slice Q2 t.kinds.length q2,.slice Q3 t.acts.length q3,.int .i64 t.run.act,.slice Q4 t.run.args.length q4] 88
 obtain ⟨b0,b1,b2,b3,b4⟩:=p8 hca
 have hl0:w.heap.size<wa.heap.size:=by omega
 have hY:=aa (fun (W:World) (hW:Below w.heap.size w W)=>(h.below hW lt).cells13)
 have hPp:=aa (fun (W:World) (hW:Below w.heap.size w W)=>(hP.grgE A1 A2 A3 A4 A5 A6 A7 A8 A9 A10 A11 A12 p c1 c2 c3 c4 c5 c6 c7 c8 c9 c10 c11 c12 (aE.of hW) lt).more (B':=W.heap.size) (Hw (HL lt) hW.size))
 have hKk:=aa (fun (W:World) (hW:Below w.heap.size w W)=>(hk.grgE aV (aE.of hW) lt).more (B':=W.heap.size) aV (Hw (HL lt) hW.size))
 have hws:=aa (show rE p t=t.keys.map (fun c=>(eO p (-1) c).getD 0) from rfl)
 generalize rE p t=RES at hws ⊢
 replace hba:=aa hba
 replace hsa:=aa hsa
 clear h hP hk hca
 go_enter func190,ntmps190
 go_wp2
 go_loopw [4,6,7,8,12] (fun v4 _ _ _ i wr=>∃ j:Nat,j≤t.keys.length∧i=.int .i64 j∧Hid (oh wr w.heap.size v4 ((t.keys.take j).map fun c=>(eO p (-1) c).getD 0))∧Hid (Below w.heap.size w wr)) (fun _ _ _ _ i _=>t.keys.length-(intOf i).toNat)
 case atStart=>exact ⟨0,Hz _,rfl,aa (World.ownsRow_nil _ _ _ _),hba⟩
 case round=>
  clear b0 b1 b2 b3 b4 hl0
  obtain ⟨j,hj,rfl,hN,hB⟩:=hrel
  have hzr:=hB.out.size
  have hle:((t.keys.take j).map fun c=>(eO p (-1) c).getD 0).length=j:=by simp [Nat.min_eq_left hj]
  obtain ⟨AV,dV,hAV⟩:=aR hN.out
  rw [hle] at hAV
  replace hle:=aa hle
  subst hAV
  by_cases hlt:j<t.keys.length
  ·have hkz:(j:Int)<(t.keys.length:Int):=by omega
   obtain ⟨cb,oc,A',c',hA1,hcb,hcd,hE⟩:=(hKk.out wr hB.out).code hlt
   subst hA1
   have hnx:=aa (show (t.keys.take (j+1)).map (fun c=>(eO p (-1) c).getD 0)=(t.keys.take j).map (fun c=>(eO p (-1) c).getD 0)++ [(eO p (-1) t.keys[j]).getD 0] from by rw [H9 hlt,List.map_append];rfl)
   generalize t.keys[j]=ce at hcd hE hnx
   obtain ⟨y0,y1,y2,y3,y4,y5,y6,y7,y8,y9,y10,y11,y12⟩:=hY.out wr hB.out
   have hX:=aa (gQ A1 A2 A3 A4 A5 A6 A7 A8 A9 A10 A11 A12 p c1 c2 c3 c4 c5 c6 c7 c8 c9 c10 c11 c12 (-1) ce A' c' wr (hPp.out wr hB.out) hE)
   unfold Cc at hX
   generalize (eO p (-1) ce).getD 0=y at hX hnx
   generalize (eO p (-1) ce).isSome=is at hX
   have ltr:=Hr lt hzr
   clear hE
   go_upto_region 5 with (go_at_call 87;refine hX.out.mono ?_;rintro e w3 ⟨rfl,hb3⟩)
   have hB3:=aa (hB.out.trans (hb3.mono hzr))
   have hN3:oh w3 w.heap.size (.slice AV j dV) ((t.keys.take j).map fun c=>(eO p (-1) c).getD 0):=dO hN.out hb3 (Ht _)
   obtain ⟨v',w5,hrun,hN5,hb5⟩:=xc y hN3 hB3.out.size (by simp;omega)
   rw [←hnx.out] at hN5
   replace hN5:=aa hN5
   have hB5:=aa (hB3.out.trans hb5)
   clear hN3 hN hB hB3 hb5 hX hcd y0 y1 y2 y3 y4 y5 y6 y7 y8 y9 y10 y11 y12 hb3
   go_wp2
   go_roundw
   case rel=>exact ⟨j+1,by omega,by go_num,hN5,hB5⟩
   case measure=>simp [intOf];omega
  ·have hje:j=t.keys.length:=by omega
   subst hje
   have hN':=hN.out
   rw [H7,←hws.out] at hN'
   replace hN':=aa hN'
   clear hN
   go_wp2
   go_ret
   exact ⟨_,rfl,hN'.out,hB.out⟩
end
theorem AJ {a b:Nat} (ha:a<2 ^ 128) (hb:b<2 ^ 128):fT (EI a b):=⟨(cX ha).1,(cX ha).2,(cX hb).1,(cX hb).2⟩
theorem tR {a b:Nat} (hb:b<2 ^ 128):fT (pV a b):=AJ (Nat.lt_of_le_of_lt Nat.and_le_right hb) hb
theorem tS {k y n:Int} {l l':List Tk} {x:Pt} (he:eL l) (hw:aj y=true) (h:pu k y l=some (x,n,l')):fT x∧0≤n∧n≤128∧l'.length<l.length:=by
 have hw':=(aC y).1 hw
 have hp:=nY hw
 have hlt:∀ j,dD j y.toNat<2 ^ 128:=fun j=>Hr ph hp
 unfold pu nn at h
 by_cases h1:cD [95] l=true
 ·rw [if_pos h1] at h
  have:=gP he (xd h1)
  by_cases hk:k=1
  ·rw [if_pos hk] at h;cases h
  ·rw [if_neg hk] at h
   cases h
   exact ⟨AJ (by decide) (by decide),by omega,by omega,by omega⟩
 ·rw [if_neg h1] at h
  by_cases h2:(ag l).kind=2
  ·rw [if_pos h2] at h
   simp only [HP] at h
   have q1:=gP he (by omega)
   have q2:=bp (ai l)
   have q3:=bp (ai (ai l))
   by_cases h3:cD [47] (ai l)=true
   ·rw [if_pos h3] at h
    by_cases h4:(ag (ai (ai l))).kind=2
    ·rw [if_pos h4] at h
     simp only [HP] at h
     split at h
     ·rename_i hc
      cases h
      have hc3:=hc.2.2
      unfold qM at hc3
      rw [Hy] at hc3
      have:=of_decide_eq_true hc3.2
      exact ⟨tR (hlt _),by omega,by omega,by omega⟩
     ·cases h
    ·rw [if_neg h4] at h;cases h
   ·rw [if_neg h3] at h
    by_cases h5:cD nW (ai l)=true
    ·rw [if_pos h5] at h
     by_cases h4:(ag (ai (ai l))).kind=2
     ·rw [if_pos h4] at h
      simp only [HP] at h
      split at h
      ·rename_i hc
       cases h
       exact ⟨tR (Hr (fC hc.2.2) hp),by omega,by omega,by omega⟩
      ·cases h
     ·rw [if_neg h4] at h;cases h
    ·rw [if_neg h5] at h
     split at h
     ·cases h
      exact ⟨tR (hlt _),by omega,by omega,by omega⟩
     ·cases h
  ·rw [if_neg h2] at h;cases h
theorem my {p:Lp} {t:fJ} {f:Nat} {acc xs:List Pt} {len L:Int} {ts r:List Tk} (h:iW p t (f+1) acc len ts=some (xs,L,r)):
  acc.length<t.keys.length∧∃ x n l1,pu (im t acc.length) (qp p t acc.length) ts=some (x,n,l1)∧(if cD [44] l1=true then iW p t f (acc++ [x]) (len+n) (ai l1)=some (xs,L,r) else acc++ [x]=xs∧len+n=L∧l1=r):=by
 unfold iW at h
 split at h
 ·rename_i hc
  refine ⟨hc,?_⟩
  cases hp:pu (im t acc.length) (qp p t acc.length) ts with
  |none=>rw [hp] at h;cases h
  |some y=>
   obtain ⟨x,n,l1⟩:=y
   rw [hp] at h
   simp only [HP] at h
   refine ⟨x,n,l1,rfl,?_⟩
   split at h
   ·rename_i hi;rw [if_pos hi];exact h
   ·rename_i hi;rw [if_neg hi];cases h;exact ⟨rfl,rfl,rfl⟩
 ·cases h
theorem mz {l r:List Tk} {v:Int} (h:qN l=some (v,r)):(cD uR l=true∧(ag (ai l)).kind=2∧qM (ag (ai l)) 65536=true∧v=((ag (ai l)).n:Int)∧r=ai (ai l))∨(cD uR l=false∧v=0∧r=l):=by
 unfold qN nn at h
 by_cases h1:cD uR l=true
 ·left
  rw [if_pos h1] at h
  by_cases h2:(ag (ai l)).kind=2
  ·rw [if_pos h2] at h
   simp only [HP] at h
   split at h
   ·rename_i hc;cases h;exact ⟨h1,h2,hc,rfl,rfl⟩
   ·cases h
  ·rw [if_neg h2] at h;cases h
 ·right
  rw [if_neg h1] at h
  cases h
  exact ⟨Bool.eq_false_iff.2 h1,rfl,rfl⟩
structure FZ (p:Lp) (l l':List Tk) (e:aA) (t:fJ) (a:sM) (l1 l2 l3 l4 l5:List Tk):Prop where
 a1:cD [46] l=true
 a2:B9 (ag (ai l))=true
 a3:nX (ai l)∈p.nt
 a4:e.tab=bo p.nt (nX (ai l))
 a5:eC p.tabs e.tab=some t
 b1:cD [58] (ai (ai l))=true
 b2:l1=ai (ai (ai l))
 b3:iW p t (l1.length+1) [] 0 l1=some (e.pats,e.len,l2)
 b4:e.pats.length=t.keys.length
 c1:qN l2=some (e.prio,l3)
 c2:cD FT l3=true
 d1:B9 (ag (ai l3))=true
 d2:nX (ai l3)∈p.na
 d3:e.run.act=bo p.na (nX (ai l3))
 d4:e.run.act∈t.acts
 d5:eC p.acts e.run.act=some a
 e1:l4=ai (ai l3)
 e2:tp a.params l4=some (e.run.args,l5)
 e3:cD [59] l5=true
 e4:l'=ai l5
theorem mA {p:Lp} {l l':List Tk} {e:aA} (h:qO p l=some (e,l')):∃ t a l1 l2 l3 l4 l5,FZ p l l' e t a l1 l2 l3 l4 l5:=by
 unfold qO jR qL at h
 by_cases a1:cD [46] l=true
 ·rw [if_pos a1] at h
  simp only [HP] at h
  by_cases a2:B9 (ag (ai l))=true∧nX (ai l)∈p.nt
  ·rw [if_pos a2] at h
   simp only [HP] at h
   cases ht:eC p.tabs (bo p.nt (nX (ai l))) with
   |none=>rw [ht] at h;cases h
   |some t=>
    rw [ht] at h
    simp only [HP] at h
    by_cases b1:cD [58] (ai (ai l))=true
    ·rw [if_pos b1] at h
     simp only [HP] at h
     cases hp:iW p t ((ai (ai (ai l))).length+1) [] 0 (ai (ai (ai l))) with
     |none=>rw [hp] at h;cases h
     |some y=>
      obtain ⟨ps,ln,l2⟩:=y
      rw [hp] at h
      simp only [HP] at h
      by_cases b4:ps.length=t.keys.length
      ·rw [if_pos b4] at h
       cases hr:qN l2 with
       |none=>rw [hr] at h;cases h
       |some z=>
        obtain ⟨pr,l3⟩:=z
        rw [hr] at h
        simp only [HP] at h
        by_cases c2:cD FT l3=true
        ·rw [if_pos c2] at h
         simp only [HP] at h
         by_cases d1:B9 (ag (ai l3))=true∧nX (ai l3)∈p.na
         ·rw [if_pos d1] at h
          simp only [HP] at h
          by_cases d4:bo p.na (nX (ai l3))∈t.acts
          ·rw [if_pos d4] at h
           cases ha:eC p.acts (bo p.na (nX (ai l3))) with
           |none=>rw [ha] at h;cases h
           |some a=>
            rw [ha] at h
            simp only [HP] at h
            cases hg:tp a.params (ai (ai l3)) with
            |none=>rw [hg] at h;cases h
            |some u=>
             obtain ⟨xs,l5⟩:=u
             rw [hg] at h
             simp only [HP] at h
             by_cases e3:cD [59] l5=true
             ·rw [if_pos e3] at h
              simp only [HP] at h
              cases h
              exact ⟨t,a,_,l2,l3,_,l5,⟨a1,a2.1,a2.2,rfl,ht,b1,rfl,hp,b4,hr,c2,d1.1,d1.2,rfl,d4,ha,rfl,hg,e3,rfl⟩⟩
             ·rw [if_neg e3] at h;cases h
          ·rw [if_neg d4] at h;cases h
         ·rw [if_neg d1] at h;cases h
        ·rw [if_neg c2] at h;cases h
      ·rw [if_neg b4] at h;cases h
    ·rw [if_neg b1] at h;cases h
  ·rw [if_neg a2] at h;cases h
 ·rw [if_neg a1] at h;cases h
structure gX (w W:World) (g:Nat) (l:List Tk) (V:Array Value) (tab:Int) (v1:Value) (pats:List Pt) (len prio act:Int) (v2:Value) (args:List (Int×Int)):Prop where
 grg:aE g w W
 rd:bq W g l V
 bx:W.heap[w.heap.size]? =some (.cells #[.int .i64 tab,v1,.int .i64 len,.int .i64 prio,.int .i64 act,v2] 49 (0,0))
 ps:Ag W (w.heap.size+1) v1 pats
 nu:nr W (w.heap.size+1) v2 args
 lt:g<w.heap.size
theorem gX.bl {w W:World} {g:Nat} {l:List Tk} {V:Array Value} {tab:Int} {v1:Value} {pats:List Pt} {len prio act:Int} {v2:Value} {args:List (Int×Int)} (h:gX w W g l V tab v1 pats len prio act v2 args):w.heap.size<W.heap.size:=aN h.bx
theorem gX.step {w W W':World} {g:Nat} {l l':List Tk} {V:Array Value} {tab:Int} {v1:Value} {pats:List Pt} {len prio act:Int} {v2:Value} {args:List (Int×Int)} (h:gX w W g l V tab v1 pats len prio act v2 args) (hG:aE g W W') (hR:bq W' g l' V):gX w W' g l' V tab v1 pats len prio act v2 args:=
 ⟨h.grg.trans hG,hR,(hG.blk h.bl (by have:=h.lt;omega)).trans h.bx,⟨h.ps.1,bd h.ps.2 hG (by have:=h.lt;omega)⟩,⟨h.nu.1,bd h.nu.2 hG (by have:=h.lt;omega)⟩,h.lt⟩
theorem gX.below {w W W':World} {g:Nat} {l:List Tk} {V:Array Value} {tab:Int} {v1:Value} {pats:List Pt} {len prio act:Int} {v2:Value} {args:List (Int×Int)} (h:gX w W g l V tab v1 pats len prio act v2 args) (hb:Below W.heap.size W W'):gX w W' g l V tab v1 pats len prio act v2 args:=
 h.step (aE.of hb) (h.rd.below hb h.rd.lt)
theorem gX.cells {w W:World} {g:Nat} {l:List Tk} {V:Array Value} {tab:Int} {v1:Value} {pats:List Pt} {len prio act:Int} {v2:Value} {args:List (Int×Int)} (h:gX w W g l V tab v1 pats len prio act v2 args):
  W.cell? ⟨w.heap.size,0,none⟩=some (.int .i64 tab)∧W.cell? ⟨w.heap.size,1,none⟩=some v1∧W.cell? ⟨w.heap.size,2,none⟩=some (.int .i64 len)∧W.cell? ⟨w.heap.size,3,none⟩=some (.int .i64 prio)∧W.cell? ⟨w.heap.size,4,none⟩=some (.int .i64 act)∧W.cell? ⟨w.heap.size,5,none⟩=some v2∧(W.frozen? ⟨w.heap.size,0,none⟩=false∧W.frozen? ⟨w.heap.size,1,none⟩=false∧W.frozen? ⟨w.heap.size,2,none⟩=false∧W.frozen? ⟨w.heap.size,3,none⟩=false∧W.frozen? ⟨w.heap.size,4,none⟩=false∧W.frozen? ⟨w.heap.size,5,none⟩=false):=
 ⟨aH h.bx 0,aH h.bx 1,aH h.bx 2,aH h.bx 3,aH h.bx 4,aH h.bx 5,cm h.bx 0,cm h.bx 1,cm h.bx 2,cm h.bx 3,cm h.bx 4,cm h.bx 5⟩
theorem gX.setTab {w W:World} {g:Nat} {l:List Tk} {V:Array Value} {tab:Int} {v1:Value} {pats:List Pt} {len prio act:Int} {v2:Value} {args:List (Int×Int)} (h:gX w W g l V tab v1 pats len prio act v2 args) (x:Int):gX w (W.setCell ⟨w.heap.size,0,none⟩ (.int .i64 x)) g l V x v1 pats len prio act v2 args:=
 ⟨h.grg.setNew (Ht _) _,h.rd.setNew h.lt _,ax h.bx,⟨h.ps.1,ownsRow_setCell_below h.ps.2 (HV _) _⟩,⟨h.nu.1,ownsRow_setCell_below h.nu.2 (HV _) _⟩,h.lt⟩
theorem gX.setPrio {w W:World} {g:Nat} {l:List Tk} {V:Array Value} {tab:Int} {v1:Value} {pats:List Pt} {len prio act:Int} {v2:Value} {args:List (Int×Int)} (h:gX w W g l V tab v1 pats len prio act v2 args) (x:Int):gX w (W.setCell ⟨w.heap.size,3,none⟩ (.int .i64 x)) g l V tab v1 pats len x act v2 args:=
 ⟨h.grg.setNew (Ht _) _,h.rd.setNew h.lt _,ax h.bx,⟨h.ps.1,ownsRow_setCell_below h.ps.2 (HV _) _⟩,⟨h.nu.1,ownsRow_setCell_below h.nu.2 (HV _) _⟩,h.lt⟩
theorem gX.setAct {w W:World} {g:Nat} {l:List Tk} {V:Array Value} {tab:Int} {v1:Value} {pats:List Pt} {len prio act:Int} {v2:Value} {args:List (Int×Int)} (h:gX w W g l V tab v1 pats len prio act v2 args) (x:Int):gX w (W.setCell ⟨w.heap.size,4,none⟩ (.int .i64 x)) g l V tab v1 pats len prio x v2 args:=
 ⟨h.grg.setNew (Ht _) _,h.rd.setNew h.lt _,ax h.bx,⟨h.ps.1,ownsRow_setCell_below h.ps.2 (HV _) _⟩,⟨h.nu.1,ownsRow_setCell_below h.nu.2 (HV _) _⟩,h.lt⟩
theorem gX.setArgs {w W:World} {g:Nat} {l:List Tk} {V:Array Value} {tab:Int} {v1:Value} {pats:List Pt} {len prio act:Int} {v2:Value} {args:List (Int×Int)} (h:gX w W g l V tab v1 pats len prio act v2 args) {v:Value} {xs:List (Int×Int)} (hv:nr W (w.heap.size+1) v xs):gX w (W.setCell ⟨w.heap.size,5,none⟩ v) g l V tab v1 pats len prio act v xs:=
 ⟨h.grg.setNew (Ht _) _,h.rd.setNew h.lt _,ax h.bx,⟨h.ps.1,ownsRow_setCell_below h.ps.2 (HV _) _⟩,⟨hv.1,ownsRow_setCell_below hv.2 (HV _) _⟩,h.lt⟩
theorem gX.setPat {w W W':World} {g:Nat} {l:List Tk} {V:Array Value} {tab:Int} {v1:Value} {pats:List Pt} {len prio act:Int} {v2:Value} {args:List (Int×Int)} (h:gX w W g l V tab v1 pats len prio act v2 args) {v:Value} {xs:List Pt} (hb:Below (w.heap.size+1) W W') (hnu:nr W' (w.heap.size+1) v2 args) (hv:Ag W' (w.heap.size+1) v xs) (x:Int):
  gX w ((W'.setCell ⟨w.heap.size,1,none⟩ v).setCell ⟨w.heap.size,2,none⟩ (.int .i64 x)) g l V tab v xs x prio act v2 args:=by
 have hG:aE g w W':=⟨hb.os.trans h.grg.os,hb.tape.trans h.grg.tape,hb.output.trans h.grg.output,Hw h.grg.size hb.size,fun q hq hn=>(hb.block q (Nat.lt_succ_of_lt hq)).trans (h.grg.block q hq hn)⟩
 have hR:bq W' g l V:=h.rd.below hb (Nat.lt_succ_of_lt h.lt)
 have hB:W'.heap[w.heap.size]? =_:=(hb.block _ (HV _)).trans h.bx
 exact ⟨(hG.setNew (Ht _) _).setNew (Ht _) _,(hR.setNew h.lt _).setNew h.lt _,ax (ax hB),⟨hv.1,ownsRow_setCell_below (ownsRow_setCell_below hv.2 (HV _) _) (HV _) _⟩,⟨hnu.1,ownsRow_setCell_below (ownsRow_setCell_below hnu.2 (HV _) _) (HV _) _⟩,h.lt⟩
theorem oB {W:World} {r base k n:Nat} {e:TypeId} {v:Value} {xs:List Value} (h:W.ownsRow base e k v n xs) (hr:r<base) (a0 a1 a2 a3 a4 a5:Value):((((((W.setCell ⟨r,0,none⟩ a0).setCell ⟨r,1,none⟩ a1).setCell ⟨r,2,none⟩ a2).setCell ⟨r,3,none⟩ a3).setCell ⟨r,4,none⟩ a4).setCell ⟨r,5,none⟩ a5).ownsRow base e k v n xs:=
 ownsRow_setCell_below (ownsRow_setCell_below (ownsRow_setCell_below (ownsRow_setCell_below (ownsRow_setCell_below (ownsRow_setCell_below h hr _) hr _) hr _) hr _) hr _) hr _
theorem gX.fin {w W:World} {g:Nat} {l:List Tk} {V:Array Value} {tab:Int} {v1:Value} {pats:List Pt} {len prio act:Int} {v2:Value} {args:List (Int×Int)} (h:gX w W g l V tab v1 pats len prio act v2 args) (a0 a1 a2 a3 a4 a5:Value):
  Ag ((((((W.setCell ⟨w.heap.size,0,none⟩ a0).setCell ⟨w.heap.size,1,none⟩ a1).setCell ⟨w.heap.size,2,none⟩ a2).setCell ⟨w.heap.size,3,none⟩ a3).setCell ⟨w.heap.size,4,none⟩ a4).setCell ⟨w.heap.size,5,none⟩ a5) w.heap.size v1 pats∧
  nr ((((((W.setCell ⟨w.heap.size,0,none⟩ a0).setCell ⟨w.heap.size,1,none⟩ a1).setCell ⟨w.heap.size,2,none⟩ a2).setCell ⟨w.heap.size,3,none⟩ a3).setCell ⟨w.heap.size,4,none⟩ a4).setCell ⟨w.heap.size,5,none⟩ a5) w.heap.size v2 args∧
  aE g w ((((((W.setCell ⟨w.heap.size,0,none⟩ a0).setCell ⟨w.heap.size,1,none⟩ a1).setCell ⟨w.heap.size,2,none⟩ a2).setCell ⟨w.heap.size,3,none⟩ a3).setCell ⟨w.heap.size,4,none⟩ a4).setCell ⟨w.heap.size,5,none⟩ a5)∧
  bq ((((((W.setCell ⟨w.heap.size,0,none⟩ a0).setCell ⟨w.heap.size,1,none⟩ a1).setCell ⟨w.heap.size,2,none⟩ a2).setCell ⟨w.heap.size,3,none⟩ a3).setCell ⟨w.heap.size,4,none⟩ a4).setCell ⟨w.heap.size,5,none⟩ a5) g l V:=by
 obtain ⟨q1,q2⟩:=uU h.grg h.rd (Ht _) h.lt a0 a1 a2 a3 a4 a5
 exact ⟨⟨h.ps.1,cM (oB h.ps.2 (HV _) a0 a1 a2 a3 a4 a5) (Nat.le_succ _)⟩,⟨h.nu.1,cM (oB h.nu.2 (HV _) a0 a1 a2 a3 a4 a5) (Nat.le_succ _)⟩,q1,q2⟩
theorem eY.far {W:World} {r b i:Nat} {c0 c2 c3 c4 c5:Int} {s:ByteArray} {v:Value} (h:eY W r c0 s c2 c3 c4 c5) (hn:r≠b):eY (W.setCell ⟨b,i,none⟩ v) r c0 s c2 c3 c4 c5:=(ak hn).trans h
def gY (W:World) (r:Nat) (Q1 Q2 Q3 Q4:Option Addr) (t:fJ) (q1 q2 q3 q4:Nat):Prop:=W.heap[r]? =some (.cells #[.slice Q1 t.keys.length q1,.slice Q2 t.kinds.length q2,.slice Q3 t.acts.length q3,.int .i64 t.run.act,.slice Q4 t.run.args.length q4] 88 (0,0))
theorem gY.far {W:World} {r b i:Nat} {Q1 Q2 Q3 Q4:Option Addr} {t:fJ} {q1 q2 q3 q4:Nat} {v:Value} (h:gY W r Q1 Q2 Q3 Q4 t q1 q2 q3 q4) (hn:r≠b):gY (W.setCell ⟨b,i,none⟩ v) r Q1 Q2 Q3 Q4 t q1 q2 q3 q4:=(ak hn).trans h
theorem gY.lt {W:World} {r:Nat} {Q1 Q2 Q3 Q4:Option Addr} {t:fJ} {q1 q2 q3 q4:Nat} (h:gY W r Q1 Q2 Q3 Q4 t q1 q2 q3 q4):r<W.heap.size:=aN h
theorem gY.grg {g:Nat} {W W':World} {r:Nat} {Q1 Q2 Q3 Q4:Option Addr} {t:fJ} {q1 q2 q3 q4:Nat} (h:gY W r Q1 Q2 Q3 Q4 t q1 q2 q3 q4) (hG:aE g W W') (hn:r≠g):gY W' r Q1 Q2 Q3 Q4 t q1 q2 q3 q4:=(hG.blk h.lt hn).trans h
theorem gY.cells {W:World} {r:Nat} {Q1 Q2 Q3 Q4:Option Addr} {t:fJ} {q1 q2 q3 q4:Nat} (h:gY W r Q1 Q2 Q3 Q4 t q1 q2 q3 q4):W.cell? ⟨r,0,none⟩=some (.slice Q1 t.keys.length q1)∧W.cell? ⟨r,1,none⟩=some (.slice Q2 t.kinds.length q2)∧W.cell? ⟨r,2,none⟩=some (.slice Q3 t.acts.length q3)∧W.cell? ⟨r,3,none⟩=some (.int .i64 t.run.act)∧W.cell? ⟨r,4,none⟩=some (.slice Q4 t.run.args.length q4):=
 ⟨aH h 0,aH h 1,aH h 2,aH h 3,aH h 4⟩
structure pD (wz W:World) (g:Nat) (l:List Tk) (V:Array Value) (b:Nat) (x:Pt):Prop where
 grg:aE g wz W
 rd:bq W g l V
 bx:fy W b x.vh x.vl x.mh x.ml
 nb:wz.heap.size≤b
theorem pD.new {wz w3:World} {g:Nat} {l:List Tk} {V:Array Value} (hG:aE g wz w3) (hR:bq w3 g l V) (x:Pt):pD wz (w3.alloc (.cells #[.int .u64 x.vh,.int .u64 x.vl,.int .u64 x.mh,.int .u64 x.ml] 101)) g l V w3.heap.size x:=
 have hb:Below w3.heap.size w3 (w3.alloc (.cells #[.int .u64 x.vh,.int .u64 x.vl,.int .u64 x.mh,.int .u64 x.ml] 101)):=(Hs _ _).alloc (Ht _) _
 ⟨hG.trans (aE.of hb),hR.below hb hR.lt,heap_alloc_new w3 _,hG.size⟩
theorem pD.set {wz w2 w3:World} {g:Nat} {l:List Tk} {V:Array Value} (h2:w2=(wz.alloc (.cells #[.int .u64 0,.int .u64 0,.int .u64 0,.int .u64 0] 101)).drew) (hG:aE g wz w3) (hG2:aE g w2 w3) (hg:g<wz.heap.size) (hR:bq w3 g l V) (x:Pt):
  pD wz ((((w3.setCell ⟨wz.heap.size,0,none⟩ (.int .u64 x.vh)).setCell ⟨wz.heap.size,1,none⟩ (.int .u64 x.vl)).setCell ⟨wz.heap.size,2,none⟩ (.int .u64 x.mh)).setCell ⟨wz.heap.size,3,none⟩ (.int .u64 x.ml)) g l V wz.heap.size x:=by
 have hk:w2.heap[wz.heap.size]? =some (.cells #[.int .u64 0,.int .u64 0,.int .u64 0,.int .u64 0] 101 (0,0)):=by rw [h2];exact heap_alloc_new wz _
 have hk3:=(hG2.blk (aN hk) (by omega)).trans hk
 exact ⟨(((hG.setNew (Ht _) _).setNew (Ht _) _).setNew (Ht _) _).setNew (Ht _) _,(((hR.setNew hg _).setNew hg _).setNew hg _).setNew hg _,ax (ax (ax (ax hk3))),Ht _⟩
theorem Ee {g:Nat} {W w1:World} (h:aE g W w1):(∀ b o,b<W.heap.size→b≠g→w1.cell? ⟨b,o,none⟩=W.cell? ⟨b,o,none⟩)∧(∀ b o,b<W.heap.size→b≠g→w1.frozen? ⟨b,o,none⟩=W.frozen? ⟨b,o,none⟩)∧W.heap.size≤w1.heap.size:=
 ⟨fun b o hb hn=>h.cell hb hn,fun b o hb hn=>h.frozen hb hn,h.size⟩
theorem oC {g:Nat} {wz w':World} (h:aE g wz w'):aE g wz w'∧∀ b o,b<wz.heap.size→b≠g→w'.cell? ⟨b,o,none⟩=wz.cell? ⟨b,o,none⟩:=⟨h,fun b o hb hn=>h.cell hb hn⟩
theorem oh.at_ {w:World} {base:Nat} {A:Option Addr} {n c i:Nat} {l:List Int} (h:oh w base (.slice A n c) l) (hi:i<l.length):∃ b,A=some ⟨b,0,none⟩∧base≤b∧b<w.heap.size∧w.cell? ⟨b,i,none⟩=some (.int .i64 l[i]):=by
 have hf:l.flatMap EK=l.map (Value.int .i64):=by clear h hi;induction l<;>simp_all [EK]
 have h0:=h
 unfold oh at h0
 rcases h0.2 with ⟨he,hz⟩|⟨b,cap,cur,he,hb,hh,h1,h2,h3,h4⟩
 ·omega
 ·injection he with e1 e2 e3
  subst e1
  refine ⟨b,rfl,hb,aN hh,?_⟩
  have hc:=World.ownsRow.cells h0 (g:=b) rfl i (.int .i64 l[i]) (by rw [hf];simp [hi])
  have e:((⟨b,0,none⟩:Addr).add i)=⟨b,i,none⟩:=by unfold Addr.add;split<;>simp_all
  rw [e] at hc
  exact hc
def CV (e:TypeId) (w w':World):Prop:=∀ (k:Nat) (cs:Array Value) (t:TypeId) (fr:Nat×Nat),w.heap[k]? =some (.cells cs t fr)→t≠e→w'.heap[k]? =some (.cells cs t fr)
theorem dm {w w':World} {e e':TypeId} {base k n:Nat} {v:Value} {xs:List Value} (h:w.ownsRow base e' k v n xs) (hK:CV e w w') (hne:e'≠e):w'.ownsRow base e' k v n xs:=by
 refine ⟨h.1,?_⟩
 rcases h.2 with h2|⟨b,cap,cur,rfl,hb,hh,r⟩
 ·exact .inl h2
 ·exact .inr ⟨b,cap,cur,rfl,hb,hK _ _ _ _ hh hne,r⟩
theorem mC {w w1:World} {o:Obj} {base size n:Nat} {e:TypeId} {v:Value} {xs:List Value} (hd:w.ownsRow base e size v n xs) (hg:(w.alloc o).grownBy w1 v.ownBlock):CV e w w1:=fun k cs t fr hk hne=>by
 have hlt:k<w.heap.size:=(Ir.1 hk).1
 have hk2:(w.alloc o).heap[k]? =some (.cells cs t fr):=(((Hs w.heap.size w).alloc (Ht _) o).block k hlt).trans hk
 rw [hg.block k (by simp;omega) ?_,hk2]
 intro hv
 rcases hd.2 with ⟨rfl,-⟩|⟨b,cap,cur,rfl,hbb,hh,r⟩
 ·cases hv
 ·have hb:b=k:=by simpa [Value.ownBlock,eq_comm] using hv
  subst hb
  rw [hk] at hh
  injection hh with hh
  injection hh with h1 h2
  exact hne h2
theorem tT {W:World} {base:Nat} {v:Value} {l:List Pt} (x:Pt) (hx:fT x) (hd:Ag W base v l) (hb:base≤W.heap.size) (hz:l.length<100000):
  ∃ v' w',(eh #[44,44] 44 #[v,.slice (some ⟨W.heap.size,0,none⟩) 1 1]).run prog (W.alloc (.cells #[.int .u64 x.vh,.int .u64 x.vl,.int .u64 x.mh,.int .u64 x.ml] 101))=.ok v' w'∧Ag w' base v' (l++ [x])∧Below base W w'∧CV 101 W w':=by
 obtain ⟨v',w',h1,h2,h3,h4,-⟩:=eU (f:=FK) underlying44 wX rfl (by decide) (fun _=>rfl) (fun x u hu=>by simp [FK] at hu;rcases hu with rfl|rfl|rfl|rfl<;>rfl) x hd.2 hb hz (by decide)
 exact ⟨v',w',h1,⟨fun y hy=>by
  rcases HZ.1 hy with hy|hy
  ·exact hd.1 y hy
  ·rw [List.mem_singleton] at hy;rw [hy];exact hx,h2⟩,h4,mC hd.2 h3⟩
section
open Go.RowKit Go.Lib
attribute [local go_sem ↓] cH
structure F0 (wa:World) (r:Nat) (x:Pt) (W:World):Prop where
 bel:Below wa.heap.size wa W
 bx:fy W r x.vh x.vl x.mh x.ml
theorem F0.step {wa W W':World} {r:Nat} {x:Pt} (h:F0 wa r x W) (hb:Below W.heap.size W W'):F0 wa r x W':=
 ⟨h.bel.trans (hb.mono h.bel.size),(hb.block r (aN h.bx)).trans h.bx⟩
end
end Go.Proofs.YtijcdfdbkffiaaaGreatDoor

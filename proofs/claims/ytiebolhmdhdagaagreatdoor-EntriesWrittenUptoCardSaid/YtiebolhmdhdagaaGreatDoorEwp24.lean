import Derived.Test.YtiebolhmdhdagaaGreatDoorEwp23
set_option linter.all false
open Go.Proofs.Tryz
namespace Go.Proofs.YtiebolhmdhdagaaGreatDoor
open _root_.Nat renaming lt_of_lt_of_le→He, le_refl→Hh, le_trans→Hj, lt_succ_self→HA
open _root_.Go.RowKit.Below renaming refl→Hf
open _root_.Bool renaming and_eq_true→Hl
open _root_.Option renaming bind_some→Hq
open _root_.List renaming mem_append→H0
open _root_.Array renaming getElem?_eq_some_iff→If
open Go.RowKit
theorem BF {a b:Nat} (ha:a<2 ^ 128) (hb:b<2 ^ 128):em (Eo a b):=⟨(da ha).1,(da ha).2,(da hb).1,(da hb).2⟩
theorem uX {a b:Nat} (hb:b<2 ^ 128):em (py a b):=BF (Nat.lt_of_le_of_lt Nat.and_le_right hb) hb
theorem uY {k y n:Int} {l l':List Tk} {x:Pt} (he:eV l) (hw:aj y=true) (h:nc k y l=some (x,n,l')):em x∧0≤n∧n≤128∧l'.length<l.length:=by
 have hw':=(aA y).1 hw
 have hp:=pK hw
 have hlt:∀ j,dK j y.toNat<2 ^ 128:=fun j=>He qI hp
 unfold nc lK at h
 by_cases h1:bA [95] l=true
 ·rw [if_pos h1] at h
  have:=ik he (yo h1)
  by_cases hk:k=1
  ·rw [if_pos hk] at h;cases h
  ·rw [if_neg hk] at h
   cases h
   exact ⟨BF (by decide) (by decide),by omega,by omega,by omega⟩
 ·rw [if_neg h1] at h
  by_cases h2:(af l).kind=2
  ·rw [if_pos h2] at h
   simp only [Hq] at h
   have q1:=ik he (by omega)
   have q2:=bw (ae l)
   have q3:=bw (ae (ae l))
   by_cases h3:bA [47] (ae l)=true
   ·rw [if_pos h3] at h
    by_cases h4:(af (ae (ae l))).kind=2
    ·rw [if_pos h4] at h
     simp only [Hq] at h
     split at h
     ·rename_i hc
      cases h
      have hc3:=hc.2.2
      unfold lL at hc3
      rw [Hl] at hc3
      have:=of_decide_eq_true hc3.2
      exact ⟨uX (hlt _),by omega,by omega,by omega⟩
     ·cases h
    ·rw [if_neg h4] at h;cases h
   ·rw [if_neg h3] at h
    by_cases h5:bA cH (ae l)=true
    ·rw [if_pos h5] at h
     by_cases h4:(af (ae (ae l))).kind=2
     ·rw [if_pos h4] at h
      simp only [Hq] at h
      split at h
      ·rename_i hc
       cases h
       exact ⟨uX (He (fY hc.2.2) hp),by omega,by omega,by omega⟩
      ·cases h
     ·rw [if_neg h4] at h;cases h
    ·rw [if_neg h5] at h
     split at h
     ·cases h
      exact ⟨uX (hlt _),by omega,by omega,by omega⟩
     ·cases h
  ·rw [if_neg h2] at h;cases h
theorem nW {p:Lp} {t:eF} {f:Nat} {acc xs:List Pt} {len L:Int} {ts r:List Tk} (h:gA p t (f+1) acc len ts=some (xs,L,r)):
  acc.length<t.keys.length∧∃ x n l1,nc (cB t acc.length) (m7 p t acc.length) ts=some (x,n,l1)∧(if bA [44] l1=true then gA p t f (acc++ [x]) (len+n) (ae l1)=some (xs,L,r) else acc++ [x]=xs∧len+n=L∧l1=r):=by
 unfold gA at h
 split at h
 ·rename_i hc
  refine ⟨hc,?_⟩
  cases hp:nc (cB t acc.length) (m7 p t acc.length) ts with
  |none=>rw [hp] at h;cases h
  |some y=>
   obtain ⟨x,n,l1⟩:=y
   rw [hp] at h
   simp only [Hq] at h
   refine ⟨x,n,l1,rfl,?_⟩
   split at h
   ·rename_i hi;rw [if_pos hi];exact h
   ·rename_i hi;rw [if_neg hi];cases h;exact ⟨rfl,rfl,rfl⟩
 ·cases h
theorem nX {l r:List Tk} {v:Int} (h:nd l=some (v,r)):(bA fw l=true∧(af (ae l)).kind=2∧lL (af (ae l)) 65536=true∧v=((af (ae l)).n:Int)∧r=ae (ae l))∨(bA fw l=false∧v=0∧r=l):=by
 unfold nd lK at h
 by_cases h1:bA fw l=true
 ·left
  rw [if_pos h1] at h
  by_cases h2:(af (ae l)).kind=2
  ·rw [if_pos h2] at h
   simp only [Hq] at h
   split at h
   ·rename_i hc;cases h;exact ⟨h1,h2,hc,rfl,rfl⟩
   ·cases h
  ·rw [if_neg h2] at h;cases h
 ·right
  rw [if_neg h1] at h
  cases h
  exact ⟨Bool.eq_false_iff.2 h1,rfl,rfl⟩
structure FV (p:Lp) (l l':List Tk) (e:aR) (t:eF) (a:qv) (l1 l2 l3 l4 l5:List Tk):Prop where
 a1:bA [46] l=true
 a2:rm (af (ae l))=true
 a3:iH (ae l)∈p.nt
 a4:e.tab=aU p.nt (iH (ae l))
 a5:eG p.tabs e.tab=some t
 b1:bA [58] (ae (ae l))=true
 b2:l1=ae (ae (ae l))
 b3:gA p t (l1.length+1) [] 0 l1=some (e.pats,e.len,l2)
 b4:e.pats.length=t.keys.length
 c1:nd l2=some (e.prio,l3)
 c2:bA uu l3=true
 d1:rm (af (ae l3))=true
 d2:iH (ae l3)∈p.na
 d3:e.run.act=aU p.na (iH (ae l3))
 d4:e.run.act∈t.acts
 d5:eG p.acts e.run.act=some a
 e1:l4=ae (ae l3)
 e2:qL a.params l4=some (e.run.args,l5)
 e3:bA [59] l5=true
 e4:l'=ae l5
theorem nY {p:Lp} {l l':List Tk} {e:aR} (h:oM p l=some (e,l')):∃ t a l1 l2 l3 l4 l5,FV p l l' e t a l1 l2 l3 l4 l5:=by
 unfold oM iI m9 at h
 by_cases a1:bA [46] l=true
 ·rw [if_pos a1] at h
  simp only [Hq] at h
  by_cases a2:rm (af (ae l))=true∧iH (ae l)∈p.nt
  ·rw [if_pos a2] at h
   simp only [Hq] at h
   cases ht:eG p.tabs (aU p.nt (iH (ae l))) with
   |none=>rw [ht] at h;cases h
   |some t=>
    rw [ht] at h
    simp only [Hq] at h
    by_cases b1:bA [58] (ae (ae l))=true
    ·rw [if_pos b1] at h
     simp only [Hq] at h
     cases hp:gA p t ((ae (ae (ae l))).length+1) [] 0 (ae (ae (ae l))) with
     |none=>rw [hp] at h;cases h
     |some y=>
      obtain ⟨ps,ln,l2⟩:=y
      rw [hp] at h
      simp only [Hq] at h
      by_cases b4:ps.length=t.keys.length
      ·rw [if_pos b4] at h
       cases hr:nd l2 with
       |none=>rw [hr] at h;cases h
       |some z=>
        obtain ⟨pr,l3⟩:=z
        rw [hr] at h
        simp only [Hq] at h
        by_cases c2:bA uu l3=true
        ·rw [if_pos c2] at h
         simp only [Hq] at h
         by_cases d1:rm (af (ae l3))=true∧iH (ae l3)∈p.na
         ·rw [if_pos d1] at h
          simp only [Hq] at h
          by_cases d4:aU p.na (iH (ae l3))∈t.acts
          ·rw [if_pos d4] at h
           cases ha:eG p.acts (aU p.na (iH (ae l3))) with
           |none=>rw [ha] at h;cases h
           |some a=>
            rw [ha] at h
            simp only [Hq] at h
            cases hg:qL a.params (ae (ae l3)) with
            |none=>rw [hg] at h;cases h
            |some u=>
             obtain ⟨xs,l5⟩:=u
             rw [hg] at h
             simp only [Hq] at h
             by_cases e3:bA [59] l5=true
             ·rw [if_pos e3] at h
              simp only [Hq] at h
              cases h
              exact ⟨t,a,_,l2,l3,_,l5,⟨a1,a2.1,a2.2,rfl,ht,b1,rfl,hp,b4,hr,c2,d1.1,d1.2,rfl,d4,ha,rfl,hg,e3,rfl⟩⟩
             ·rw [if_neg e3] at h;cases h
          ·rw [if_neg d4] at h;cases h
         ·rw [if_neg d1] at h;cases h
        ·rw [if_neg c2] at h;cases h
      ·rw [if_neg b4] at h;cases h
    ·rw [if_neg b1] at h;cases h
  ·rw [if_neg a2] at h;cases h
 ·rw [if_neg a1] at h;cases h
structure g9 (w W:World) (g:Nat) (l:List Tk) (V:Array Value) (tab:Int) (v1:Value) (pats:List Pt) (len prio act:Int) (v2:Value) (args:List (Int×Int)):Prop where
 grg:ay g w W
 rd:bb W g l V
 bx:W.heap[w.heap.size]? =some (.cells #[.int .i64 tab,v1,.int .i64 len,.int .i64 prio,.int .i64 act,v2] 57 (0,0))
 ps:Bn W (w.heap.size+1) v1 pats
 nu:oN W (w.heap.size+1) v2 args
 lt:g<w.heap.size
theorem g9.bl {w W:World} {g:Nat} {l:List Tk} {V:Array Value} {tab:Int} {v1:Value} {pats:List Pt} {len prio act:Int} {v2:Value} {args:List (Int×Int)} (h:g9 w W g l V tab v1 pats len prio act v2 args):w.heap.size<W.heap.size:=bL h.bx
theorem g9.step {w W W':World} {g:Nat} {l l':List Tk} {V:Array Value} {tab:Int} {v1:Value} {pats:List Pt} {len prio act:Int} {v2:Value} {args:List (Int×Int)} (h:g9 w W g l V tab v1 pats len prio act v2 args) (hG:ay g W W') (hR:bb W' g l' V):g9 w W' g l' V tab v1 pats len prio act v2 args:=
 ⟨h.grg.trans hG,hR,(hG.blk h.bl (by have:=h.lt;omega)).trans h.bx,⟨h.ps.1,aZ h.ps.2 hG (by have:=h.lt;omega)⟩,⟨h.nu.1,aZ h.nu.2 hG (by have:=h.lt;omega)⟩,h.lt⟩
theorem g9.below {w W W':World} {g:Nat} {l:List Tk} {V:Array Value} {tab:Int} {v1:Value} {pats:List Pt} {len prio act:Int} {v2:Value} {args:List (Int×Int)} (h:g9 w W g l V tab v1 pats len prio act v2 args) (hb:Below W.heap.size W W'):g9 w W' g l V tab v1 pats len prio act v2 args:=
 h.step (ay.of hb) (h.rd.below hb h.rd.lt)
theorem g9.cells {w W:World} {g:Nat} {l:List Tk} {V:Array Value} {tab:Int} {v1:Value} {pats:List Pt} {len prio act:Int} {v2:Value} {args:List (Int×Int)} (h:g9 w W g l V tab v1 pats len prio act v2 args):
  W.cell? ⟨w.heap.size,0,none⟩=some (.int .i64 tab)∧W.cell? ⟨w.heap.size,1,none⟩=some v1∧W.cell? ⟨w.heap.size,2,none⟩=some (.int .i64 len)∧W.cell? ⟨w.heap.size,3,none⟩=some (.int .i64 prio)∧W.cell? ⟨w.heap.size,4,none⟩=some (.int .i64 act)∧W.cell? ⟨w.heap.size,5,none⟩=some v2∧(W.frozen? ⟨w.heap.size,0,none⟩=false∧W.frozen? ⟨w.heap.size,1,none⟩=false∧W.frozen? ⟨w.heap.size,2,none⟩=false∧W.frozen? ⟨w.heap.size,3,none⟩=false∧W.frozen? ⟨w.heap.size,4,none⟩=false∧W.frozen? ⟨w.heap.size,5,none⟩=false):=
 ⟨bn h.bx 0,bn h.bx 1,bn h.bx 2,bn h.bx 3,bn h.bx 4,bn h.bx 5,fW h.bx 0,fW h.bx 1,fW h.bx 2,fW h.bx 3,fW h.bx 4,fW h.bx 5⟩
theorem g9.setTab {w W:World} {g:Nat} {l:List Tk} {V:Array Value} {tab:Int} {v1:Value} {pats:List Pt} {len prio act:Int} {v2:Value} {args:List (Int×Int)} (h:g9 w W g l V tab v1 pats len prio act v2 args) (x:Int):g9 w (W.setCell ⟨w.heap.size,0,none⟩ (.int .i64 x)) g l V x v1 pats len prio act v2 args:=
 ⟨h.grg.setNew (Hh _) _,h.rd.setNew h.lt _,bC h.bx,⟨h.ps.1,ownsRow_setCell_below h.ps.2 (HA _) _⟩,⟨h.nu.1,ownsRow_setCell_below h.nu.2 (HA _) _⟩,h.lt⟩
theorem g9.setPrio {w W:World} {g:Nat} {l:List Tk} {V:Array Value} {tab:Int} {v1:Value} {pats:List Pt} {len prio act:Int} {v2:Value} {args:List (Int×Int)} (h:g9 w W g l V tab v1 pats len prio act v2 args) (x:Int):g9 w (W.setCell ⟨w.heap.size,3,none⟩ (.int .i64 x)) g l V tab v1 pats len x act v2 args:=
 ⟨h.grg.setNew (Hh _) _,h.rd.setNew h.lt _,bC h.bx,⟨h.ps.1,ownsRow_setCell_below h.ps.2 (HA _) _⟩,⟨h.nu.1,ownsRow_setCell_below h.nu.2 (HA _) _⟩,h.lt⟩
theorem g9.setAct {w W:World} {g:Nat} {l:List Tk} {V:Array Value} {tab:Int} {v1:Value} {pats:List Pt} {len prio act:Int} {v2:Value} {args:List (Int×Int)} (h:g9 w W g l V tab v1 pats len prio act v2 args) (x:Int):g9 w (W.setCell ⟨w.heap.size,4,none⟩ (.int .i64 x)) g l V tab v1 pats len prio x v2 args:=
 ⟨h.grg.setNew (Hh _) _,h.rd.setNew h.lt _,bC h.bx,⟨h.ps.1,ownsRow_setCell_below h.ps.2 (HA _) _⟩,⟨h.nu.1,ownsRow_setCell_below h.nu.2 (HA _) _⟩,h.lt⟩
theorem g9.setArgs {w W:World} {g:Nat} {l:List Tk} {V:Array Value} {tab:Int} {v1:Value} {pats:List Pt} {len prio act:Int} {v2:Value} {args:List (Int×Int)} (h:g9 w W g l V tab v1 pats len prio act v2 args) {v:Value} {xs:List (Int×Int)} (hv:oN W (w.heap.size+1) v xs):g9 w (W.setCell ⟨w.heap.size,5,none⟩ v) g l V tab v1 pats len prio act v xs:=
 ⟨h.grg.setNew (Hh _) _,h.rd.setNew h.lt _,bC h.bx,⟨h.ps.1,ownsRow_setCell_below h.ps.2 (HA _) _⟩,⟨hv.1,ownsRow_setCell_below hv.2 (HA _) _⟩,h.lt⟩
theorem g9.setPat {w W W':World} {g:Nat} {l:List Tk} {V:Array Value} {tab:Int} {v1:Value} {pats:List Pt} {len prio act:Int} {v2:Value} {args:List (Int×Int)} (h:g9 w W g l V tab v1 pats len prio act v2 args) {v:Value} {xs:List Pt} (hb:Below (w.heap.size+1) W W') (hnu:oN W' (w.heap.size+1) v2 args) (hv:Bn W' (w.heap.size+1) v xs) (x:Int):
  g9 w ((W'.setCell ⟨w.heap.size,1,none⟩ v).setCell ⟨w.heap.size,2,none⟩ (.int .i64 x)) g l V tab v xs x prio act v2 args:=by
 have hG:ay g w W':=⟨hb.os.trans h.grg.os,hb.tape.trans h.grg.tape,hb.output.trans h.grg.output,Hj h.grg.size hb.size,fun q hq hn=>(hb.block q (Nat.lt_succ_of_lt hq)).trans (h.grg.block q hq hn)⟩
 have hR:bb W' g l V:=h.rd.below hb (Nat.lt_succ_of_lt h.lt)
 have hB:W'.heap[w.heap.size]? =_:=(hb.block _ (HA _)).trans h.bx
 exact ⟨(hG.setNew (Hh _) _).setNew (Hh _) _,(hR.setNew h.lt _).setNew h.lt _,bC (bC hB),⟨hv.1,ownsRow_setCell_below (ownsRow_setCell_below hv.2 (HA _) _) (HA _) _⟩,⟨hnu.1,ownsRow_setCell_below (ownsRow_setCell_below hnu.2 (HA _) _) (HA _) _⟩,h.lt⟩
theorem pW {W:World} {r base k n:Nat} {e:TypeId} {v:Value} {xs:List Value} (h:W.ownsRow base e k v n xs) (hr:r<base) (a0 a1 a2 a3 a4 a5:Value):((((((W.setCell ⟨r,0,none⟩ a0).setCell ⟨r,1,none⟩ a1).setCell ⟨r,2,none⟩ a2).setCell ⟨r,3,none⟩ a3).setCell ⟨r,4,none⟩ a4).setCell ⟨r,5,none⟩ a5).ownsRow base e k v n xs:=
 ownsRow_setCell_below (ownsRow_setCell_below (ownsRow_setCell_below (ownsRow_setCell_below (ownsRow_setCell_below (ownsRow_setCell_below h hr _) hr _) hr _) hr _) hr _) hr _
theorem g9.fin {w W:World} {g:Nat} {l:List Tk} {V:Array Value} {tab:Int} {v1:Value} {pats:List Pt} {len prio act:Int} {v2:Value} {args:List (Int×Int)} (h:g9 w W g l V tab v1 pats len prio act v2 args) (a0 a1 a2 a3 a4 a5:Value):
  Bn ((((((W.setCell ⟨w.heap.size,0,none⟩ a0).setCell ⟨w.heap.size,1,none⟩ a1).setCell ⟨w.heap.size,2,none⟩ a2).setCell ⟨w.heap.size,3,none⟩ a3).setCell ⟨w.heap.size,4,none⟩ a4).setCell ⟨w.heap.size,5,none⟩ a5) w.heap.size v1 pats∧
  oN ((((((W.setCell ⟨w.heap.size,0,none⟩ a0).setCell ⟨w.heap.size,1,none⟩ a1).setCell ⟨w.heap.size,2,none⟩ a2).setCell ⟨w.heap.size,3,none⟩ a3).setCell ⟨w.heap.size,4,none⟩ a4).setCell ⟨w.heap.size,5,none⟩ a5) w.heap.size v2 args∧
  ay g w ((((((W.setCell ⟨w.heap.size,0,none⟩ a0).setCell ⟨w.heap.size,1,none⟩ a1).setCell ⟨w.heap.size,2,none⟩ a2).setCell ⟨w.heap.size,3,none⟩ a3).setCell ⟨w.heap.size,4,none⟩ a4).setCell ⟨w.heap.size,5,none⟩ a5)∧
  bb ((((((W.setCell ⟨w.heap.size,0,none⟩ a0).setCell ⟨w.heap.size,1,none⟩ a1).setCell ⟨w.heap.size,2,none⟩ a2).setCell ⟨w.heap.size,3,none⟩ a3).setCell ⟨w.heap.size,4,none⟩ a4).setCell ⟨w.heap.size,5,none⟩ a5) g l V:=by
 obtain ⟨q1,q2⟩:=wj h.grg h.rd (Hh _) h.lt a0 a1 a2 a3 a4 a5
 exact ⟨⟨h.ps.1,du (pW h.ps.2 (HA _) a0 a1 a2 a3 a4 a5) (Nat.le_succ _)⟩,⟨h.nu.1,du (pW h.nu.2 (HA _) a0 a1 a2 a3 a4 a5) (Nat.le_succ _)⟩,q1,q2⟩
theorem fi.far {W:World} {r b i:Nat} {c0 c2 c3 c4 c5:Int} {s:ByteArray} {v:Value} (h:fi W r c0 s c2 c3 c4 c5) (hn:r≠b):fi (W.setCell ⟨b,i,none⟩ v) r c0 s c2 c3 c4 c5:=(cg hn).trans h
def gD (W:World) (r:Nat) (Q1 Q2 Q3 Q4:Option Addr) (t:eF) (q1 q2 q3 q4:Nat):Prop:=W.heap[r]? =some (.cells #[.slice Q1 t.keys.length q1,.slice Q2 t.kinds.length q2,.slice Q3 t.acts.length q3,.int .i64 t.run.act,.slice Q4 t.run.args.length q4] 108 (0,0))
theorem gD.far {W:World} {r b i:Nat} {Q1 Q2 Q3 Q4:Option Addr} {t:eF} {q1 q2 q3 q4:Nat} {v:Value} (h:gD W r Q1 Q2 Q3 Q4 t q1 q2 q3 q4) (hn:r≠b):gD (W.setCell ⟨b,i,none⟩ v) r Q1 Q2 Q3 Q4 t q1 q2 q3 q4:=(cg hn).trans h
theorem gD.lt {W:World} {r:Nat} {Q1 Q2 Q3 Q4:Option Addr} {t:eF} {q1 q2 q3 q4:Nat} (h:gD W r Q1 Q2 Q3 Q4 t q1 q2 q3 q4):r<W.heap.size:=bL h
theorem gD.grg {g:Nat} {W W':World} {r:Nat} {Q1 Q2 Q3 Q4:Option Addr} {t:eF} {q1 q2 q3 q4:Nat} (h:gD W r Q1 Q2 Q3 Q4 t q1 q2 q3 q4) (hG:ay g W W') (hn:r≠g):gD W' r Q1 Q2 Q3 Q4 t q1 q2 q3 q4:=(hG.blk h.lt hn).trans h
theorem gD.cells {W:World} {r:Nat} {Q1 Q2 Q3 Q4:Option Addr} {t:eF} {q1 q2 q3 q4:Nat} (h:gD W r Q1 Q2 Q3 Q4 t q1 q2 q3 q4):W.cell? ⟨r,0,none⟩=some (.slice Q1 t.keys.length q1)∧W.cell? ⟨r,1,none⟩=some (.slice Q2 t.kinds.length q2)∧W.cell? ⟨r,2,none⟩=some (.slice Q3 t.acts.length q3)∧W.cell? ⟨r,3,none⟩=some (.int .i64 t.run.act)∧W.cell? ⟨r,4,none⟩=some (.slice Q4 t.run.args.length q4):=
 ⟨bn h 0,bn h 1,bn h 2,bn h 3,bn h 4⟩
structure rc (wz W:World) (g:Nat) (l:List Tk) (V:Array Value) (b:Nat) (x:Pt):Prop where
 grg:ay g wz W
 rd:bb W g l V
 bx:fl W b x.vh x.vl x.mh x.ml
 nb:wz.heap.size≤b
theorem rc.new {wz w3:World} {g:Nat} {l:List Tk} {V:Array Value} (hG:ay g wz w3) (hR:bb w3 g l V) (x:Pt):rc wz (w3.alloc (.cells #[.int .u64 x.vh,.int .u64 x.vl,.int .u64 x.mh,.int .u64 x.ml] 63)) g l V w3.heap.size x:=
 have hb:Below w3.heap.size w3 (w3.alloc (.cells #[.int .u64 x.vh,.int .u64 x.vl,.int .u64 x.mh,.int .u64 x.ml] 63)):=(Hf _ _).alloc (Hh _) _
 ⟨hG.trans (ay.of hb),hR.below hb hR.lt,heap_alloc_new w3 _,hG.size⟩
theorem rc.set {wz w2 w3:World} {g:Nat} {l:List Tk} {V:Array Value} (h2:w2=(wz.alloc (.cells #[.int .u64 0,.int .u64 0,.int .u64 0,.int .u64 0] 63)).drew) (hG:ay g wz w3) (hG2:ay g w2 w3) (hg:g<wz.heap.size) (hR:bb w3 g l V) (x:Pt):
  rc wz ((((w3.setCell ⟨wz.heap.size,0,none⟩ (.int .u64 x.vh)).setCell ⟨wz.heap.size,1,none⟩ (.int .u64 x.vl)).setCell ⟨wz.heap.size,2,none⟩ (.int .u64 x.mh)).setCell ⟨wz.heap.size,3,none⟩ (.int .u64 x.ml)) g l V wz.heap.size x:=by
 have hk:w2.heap[wz.heap.size]? =some (.cells #[.int .u64 0,.int .u64 0,.int .u64 0,.int .u64 0] 63 (0,0)):=by rw [h2];exact heap_alloc_new wz _
 have hk3:=(hG2.blk (bL hk) (by omega)).trans hk
 exact ⟨(((hG.setNew (Hh _) _).setNew (Hh _) _).setNew (Hh _) _).setNew (Hh _) _,(((hR.setNew hg _).setNew hg _).setNew hg _).setNew hg _,bC (bC (bC (bC hk3))),Hh _⟩
theorem BG {g:Nat} {W w1:World} (h:ay g W w1):(∀ b o,b<W.heap.size→b≠g→w1.cell? ⟨b,o,none⟩=W.cell? ⟨b,o,none⟩)∧(∀ b o,b<W.heap.size→b≠g→w1.frozen? ⟨b,o,none⟩=W.frozen? ⟨b,o,none⟩)∧W.heap.size≤w1.heap.size:=
 ⟨fun b o hb hn=>h.cell hb hn,fun b o hb hn=>h.frozen hb hn,h.size⟩
theorem lB {g:Nat} {wz w':World} (h:ay g wz w'):ay g wz w'∧∀ b o,b<wz.heap.size→b≠g→w'.cell? ⟨b,o,none⟩=wz.cell? ⟨b,o,none⟩:=⟨h,fun b o hb hn=>h.cell hb hn⟩
theorem lP.at_ {w:World} {base:Nat} {A:Option Addr} {n c i:Nat} {l:List Int} (h:lP w base (.slice A n c) l) (hi:i<l.length):∃ b,A=some ⟨b,0,none⟩∧base≤b∧b<w.heap.size∧w.cell? ⟨b,i,none⟩=some (.int .i64 l[i]):=by
 have hf:l.flatMap E7=l.map (Value.int .i64):=by clear h hi;induction l<;>simp_all [E7]
 have h0:=h
 unfold lP at h0
 rcases h0.2 with ⟨he,hz⟩|⟨b,cap,cur,he,hb,hh,h1,h2,h3,h4⟩
 ·omega
 ·injection he with e1 e2 e3
  subst e1
  refine ⟨b,rfl,hb,bL hh,?_⟩
  have hc:=World.ownsRow.cells h0 (g:=b) rfl i (.int .i64 l[i]) (by rw [hf];simp [hi])
  have e:((⟨b,0,none⟩:Addr).add i)=⟨b,i,none⟩:=by unfold Addr.add;split<;>simp_all
  rw [e] at hc
  exact hc
def yL (e:TypeId) (w w':World):Prop:=∀ (k:Nat) (cs:Array Value) (t:TypeId) (fr:Nat×Nat),w.heap[k]? =some (.cells cs t fr)→t≠e→w'.heap[k]? =some (.cells cs t fr)
theorem dw {w w':World} {e e':TypeId} {base k n:Nat} {v:Value} {xs:List Value} (h:w.ownsRow base e' k v n xs) (hK:yL e w w') (hne:e'≠e):w'.ownsRow base e' k v n xs:=by
 refine ⟨h.1,?_⟩
 rcases h.2 with h2|⟨b,cap,cur,rfl,hb,hh,r⟩
 ·exact .inl h2
 ·exact .inr ⟨b,cap,cur,rfl,hb,hK _ _ _ _ hh hne,r⟩
theorem jc {w w1:World} {o:Obj} {base size n:Nat} {e:TypeId} {v:Value} {xs:List Value} (hd:w.ownsRow base e size v n xs) (hg:(w.alloc o).grownBy w1 v.ownBlock):yL e w w1:=fun k cs t fr hk hne=>by
 have hlt:k<w.heap.size:=(If.1 hk).1
 have hk2:(w.alloc o).heap[k]? =some (.cells cs t fr):=(((Hf w.heap.size w).alloc (Hh _) o).block k hlt).trans hk
 rw [hg.block k (by simp;omega) ?_,hk2]
 intro hv
 rcases hd.2 with ⟨rfl,-⟩|⟨b,cap,cur,rfl,hbb,hh,r⟩
 ·cases hv
 ·have hb:b=k:=by simpa [Value.ownBlock,eq_comm] using hv
  subst hb
  rw [hk] at hh
  injection hh with hh
  injection hh with h1 h2
  exact hne h2
theorem uZ {W:World} {base:Nat} {v:Value} {l:List Pt} (x:Pt) (hx:em x) (hd:Bn W base v l) (hb:base≤W.heap.size) (hz:l.length<100000):
  ∃ v' w',(eO #[52,52] 52 #[v,.slice (some ⟨W.heap.size,0,none⟩) 1 1]).run prog (W.alloc (.cells #[.int .u64 x.vh,.int .u64 x.vl,.int .u64 x.mh,.int .u64 x.ml] 63))=.ok v' w'∧Bn w' base v' (l++ [x])∧Below base W w'∧yL 63 W w':=by
 obtain ⟨v',w',h1,h2,h3,h4,-⟩:=eu (f:=FG) underlying52 yf rfl (by decide) (fun _=>rfl) (fun x u hu=>by simp [FG] at hu;rcases hu with rfl|rfl|rfl|rfl<;>rfl) x hd.2 hb hz (by decide)
 exact ⟨v',w',h1,⟨fun y hy=>by
  rcases H0.1 hy with hy|hy
  ·exact hd.1 y hy
  ·rw [List.mem_singleton] at hy;rw [hy];exact hx,h2⟩,h4,jc hd.2 h3⟩
end Go.Proofs.YtiebolhmdhdagaaGreatDoor

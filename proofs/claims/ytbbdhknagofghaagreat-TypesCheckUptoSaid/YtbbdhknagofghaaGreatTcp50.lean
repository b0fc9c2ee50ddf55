import Derived.Test.YtbbdhknagofghaaGreatTcp39
import Derived.Test.YtbbdhknagofghaaGreatTcp49
set_option linter.all false
set_option maxHeartbeats 8000000
set_option maxRecDepth 100000
open Go.Proofs.Tryz
namespace Go.Proofs.YtbbdhknagofghaaGreat
open _root_.Go.Calls renaming regrown_of→Bh
open _root_.Go.RowKit.Below renaming refl→Bi
open _root_.Nat renaming le_trans→Bj, zero_le→Bo
open _root_.List renaming getElem?_eq_getElem→Bk, getElem?_eq_some_iff→Bp, getElem_mem→Bv, take_of_length_le→BB, cons_append→BC, nil_append→BH, take_succ_eq_append_getElem→BO
open _root_.Go.Sort renaming grow→Bl
open Go.RowKit
theorem wD (A1 A2 A3 A4 A5 A6 A7:Option Addr) (p:Pg) (c1 c2 c3 c4 c5 c6 c7:Nat) (B:Nat) (hm:bg p=true) (x:It) (hx:pO p x) (cs:List Value) (w:World) (hB:B≤w.heap.size) (hP:bu w B A1 A2 A3 A4 A5 A6 A7 p) (h:oL w B cs x):
  Calls prog 23 #[.agg (aq p A1 A2 A3 A4 A5 A6 A7 c1 c2 c3 c4 c5 c6 c7),.agg cs.toArray] w fun z w'=>z=.returned (.int .i64 (bS (bh p x)))∧Below w.heap.size w w':=by
 unfold aq
 obtain ⟨scs,rfl,hst⟩:=h
 obtain ⟨s0,s1,s2,s3,s4,s5,s6,s7,s8,s9,s10,s11,s12,s13,rfl⟩:=aI hst
 obtain ⟨k,a,b,st⟩:=x
 obtain ⟨g6,g7,g10,g12,g14⟩:=hx
 simp only at g6 g7 g10 g12 g14 hst
 by_cases h6:k=6
 ·subst h6
  obtain ⟨i,hi,rfl,hks⟩:=g6 rfl
  rw [show bh p ⟨6,(i:Int),b,st⟩=aD (dc p) p.states[i].keys from by simp [bh,Bk hi]]
  exact vT A1 A2 A3 A4 A5 A6 A7 p c1 c2 c3 c4 c5 c6 c7 B hm i hi hks b s0 s1 s2 s3 s4 s5 s6 s7 s8 s9 s10 s11 s12 s13 w hB hP
 by_cases h7:k=7
 ·subst h7
  obtain ⟨i,hi,j,hj,rfl,rfl,hks,hkeys,hlen⟩:=g7 rfl
  rw [show bh p ⟨7,(i:Int),(j:Int),st⟩=aD (fu p) (p.states[i].cases_[j].sets.zip p.states[i].keys) from by simp [bh,Bk hi,Bk hj]]
  exact vU A1 A2 A3 A4 A5 A6 A7 p c1 c2 c3 c4 c5 c6 c7 B hm i hi j hj hks hkeys hlen s0 s1 s2 s3 s4 s5 s6 s7 s8 s9 s10 s11 s12 s13 w hB hP
 by_cases h10:k=10
 ·subst h10
  rw [show bh p ⟨10,a,b,st⟩=lj p a st from by simp [bh]]
  exact vV A1 A2 A3 A4 A5 A6 A7 p c1 c2 c3 c4 c5 c6 c7 B hm a b st (g10 rfl) s0 s1 s2 s3 s4 s5 s6 s7 s8 s9 s10 s11 s12 s13 w hB hP hst
 by_cases h12:k=12
 ·subst h12
  obtain ⟨i,hi,j,hj,rfl,rfl,hek⟩:=g12 rfl
  rw [show bh p ⟨12,(i:Int),(j:Int),st⟩=eG p p.tables[i].keys j p.tables[i].keys[j] from by simp [bh,Bk hi,Bk hj]]
  exact yd A1 A2 A3 A4 A5 A6 A7 p c1 c2 c3 c4 c5 c6 c7 B hm i hi j hj hek s0 s1 s2 s3 s4 s5 s6 s7 s8 s9 s10 s11 s12 s13 w hB hP
 by_cases h14:k=14
 ·subst h14
  obtain ⟨i,hi,k,hk,rfl,hkz,hlen⟩:=g14 rfl
  rw [show bh p ⟨14,(i:Int),b,st⟩=aD gQ (p.actions[k].params.zip p.tables[i].dargs) from by simp [bh,Bk hi,hkz,Bk hk]]
  exact pT A1 A2 A3 A4 A5 A6 A7 p c1 c2 c3 c4 c5 c6 c7 B hm i hi b k hk hkz hlen s0 s1 s2 s3 s4 s5 s6 s7 s8 s9 s10 s11 s12 s13 w hB hP
 rw [show bh p ⟨k,a,b,st⟩=.ok () from by simp [bh,h6,h7,h10,h12,h14]]
 exact vW A1 A2 A3 A4 A5 A6 A7 p c1 c2 c3 c4 c5 c6 c7 B hm k a b h6 h7 h10 h12 h14 s0 s1 s2 s3 s4 s5 s6 s7 s8 s9 s10 s11 s12 s13 w hB hP
theorem rU (A1 A2 A3 A4 A5 A6 A7:Option Addr) (p:Pg) (c1 c2 c3 c4 c5 c6 c7:Nat) (n0 e0:Int) (he:¬e0=0) (w:World)
  (hC:∀ W,Below w.heap.size w W→Calls prog 22 #[.agg (aq p A1 A2 A3 A4 A5 A6 A7 c1 c2 c3 c4 c5 c6 c7)] W fun e W'=>e=.returned (.tuple #[.int .i64 n0,.int .i64 e0])∧Below W.heap.size W W'):
  Calls prog 8 #[.agg (aq p A1 A2 A3 A4 A5 A6 A7 c1 c2 c3 c4 c5 c6 c7)] w fun e w'=>e=.returned (.tuple #[.int .i64 n0,.int .i64 e0])∧Below w.heap.size w w':=by
 unfold aq
 obtain ⟨wu,hwu,hsu,hbu,hcu,-⟩:=al w (aq p A1 A2 A3 A4 A5 A6 A7 c1 c2 c3 c4 c5 c6 c7) 30
 obtain ⟨u0,u1,u2,u3,u4,u5,u6⟩:=aF hcu
 have hl1:w.heap.size<wu.heap.size:=by omega
 have hC1:=aa (hC wu hbu)
 have hq:(e0 !=0)=true:=bne_iff_ne.2 he
 replace hsu:=aa hsu
 clear hC hcu
 go_enter func8,ntmps8
 go_wp2_with (go_at_call 22;refine hC1.out.mono ?_;rintro e w1 ⟨rfl,hb1⟩)
 go_ret2
 exact ⟨rfl,hbu.trans (hb1.mono (Nat.le_of_lt hl1))⟩
theorem tT (A1 A2 A3 A4 A5 A6 A7:Option Addr) (p:Pg) (c1 c2 c3 c4 c5 c6 c7:Nat) (B:Nat) (hm:bg p=true) (n0:Int) (w:World) (hB:B≤w.heap.size) (hP:bu w B A1 A2 A3 A4 A5 A6 A7 p) (hbg:(ao p).length≤dd)
  (hC:∀ W,Below w.heap.size w W→Calls prog 22 #[.agg (aq p A1 A2 A3 A4 A5 A6 A7 c1 c2 c3 c4 c5 c6 c7)] W fun e W'=>e=.returned (.tuple #[.int .i64 n0,.int .i64 0])∧Below W.heap.size W W')
  (hok:∀ (k:Nat) (x:It),(ao p)[k]? =some x→(∀ (j:Nat) (y:It),j<k→(ao p)[j]? =some y→bS (bh p y)=0)→pO p x):
  Calls prog 8 #[.agg (aq p A1 A2 A3 A4 A5 A6 A7 c1 c2 c3 c4 c5 c6 c7)] w fun e w'=>e=.returned (.tuple #[.int .i64 (eT p (ao p) 0 n0).1,.int .i64 (eT p (ao p) 0 n0).2])∧Below w.heap.size w w':=by
 unfold aq
 obtain ⟨wb,hwb,hsz,hba,hcb,-⟩:=al w (aq p A1 A2 A3 A4 A5 A6 A7 c1 c2 c3 c4 c5 c6 c7) 30
 obtain ⟨y0,y1,y2,y3,y4,y5,y6⟩:=aF (w:=wb) (a:=w.heap.size) fun i=>hcb i
 have hBk:=aa (show ∀ W,Below wb.heap.size wb W→Below w.heap.size w W from fun W hb=>hba.trans (hb.mono (by omega)))
 have hBb:B≤wb.heap.size:=by omega
 have hlz:w.heap.size<wb.heap.size:=by omega
 have hP2:=aa (hP.below (hba.mono hB))
 have hM:=aa (hC wb hba)
 have hone:=aa (wD A1 A2 A3 A4 A5 A6 A7 p c1 c2 c3 c4 c5 c6 c7 (hm:=hm))
 clear hcb hba hP hC
 replace hsz:=aa hsz
 replace hok:=aa hok
 go_enter func8,ntmps8
 go_wp2_with fail
 refine hM.out.mono ?_
 rintro _ w1 ⟨rfl,hb1⟩
 have kb1:=ab hb1
 have hI:=aa (lF A1 A2 A3 A4 A5 A6 A7 p c1 c2 c3 c4 c5 c6 c7 B w1 (Bj hBb hb1.size) (hP2.out.below (hb1.mono hBb)) hbg)
 go_wp2_with fail
 refine hI.out.mono ?_
 rintro _ w2 ⟨v2,rfl,hI2,hb2⟩
 have hb02:=hb1.trans (hb2.mono hb1.size)
 have hz2:=hb02.size
 obtain ⟨AI,capI,rfl,hS⟩:=hI2.sl (Bj hBb hz2) hbg
 have hn:(ao p).length≤100000000:=hbg
 have hP3:=aa ((hP2.out.below (hb02.mono hBb)).more (Bj hBb hz2))
 have kb2:=ab hb02
 have z0:=(kb2.1 w.heap.size 0 hlz).trans y0
 have z1:=(kb2.1 w.heap.size 1 hlz).trans y1
 have z2:=(kb2.1 w.heap.size 2 hlz).trans y2
 have z3:=(kb2.1 w.heap.size 3 hlz).trans y3
 have z4:=(kb2.1 w.heap.size 4 hlz).trans y4
 have z5:=(kb2.1 w.heap.size 5 hlz).trans y5
 have z6:=(kb2.1 w.heap.size 6 hlz).trans y6
 replace hS:=aa hS
 replace hb02:=aa hb02
 have hl2:w.heap.size<w2.heap.size:=by omega
 clear hI hI2 kb1 hb1 hb2 hM hP2 kb2 y0 y1 y2 y3 y4 y5 y6
 go_wp2
 go_loopw [7] (fun i wr=>∃ k:Nat,k≤(ao p).length∧i=.int .i64 k∧Hid (∀ (j:Nat) (y:It),j<k→(ao p)[j]? =some y→bS (bh p y)=0)∧Hid (Below w2.heap.size w2 wr)) (fun i _=>(ao p).length-(intOf i).toNat)
 case atStart=>exact ⟨0,Bo _,rfl,aa (fun j y h=>absurd h (Nat.not_lt_zero _)),aa (Bi _ _)⟩
 case round=>
  obtain ⟨k,hk,rfl,hf,hbr⟩:=hrel
  have hzr:=hbr.out.size
  have hc:=ab hbr.out
  have hBr:=aa (fun W (hb:Below w2.heap.size w2 W)=>hBk.out W (hb02.out.trans (hb.mono hz2)))
  by_cases hlt:k<(ao p).length
  ·obtain ⟨x,hxk⟩:∃ x,(ao p)[k]? =some x:=⟨_,Bk hlt⟩
   obtain ⟨b,o,ecs,hA,hb,hel,hcell,hr⟩:=hS.out.2 k _ hxk
   subst hA
   have hltz:(k:Int)<((ao p).length:Int):=by omega
   have hX0:=fun d os=>hone.out w2.heap.size x (hok.out k x hxk hf.out) ecs (Bl (redrawn wr d) os) (by have:=cH wr d os;omega) (hP3.out.below (aA hbr.out hzr d os)) (dJ.keep hr fun q hq=>(aA hbr.out hzr d os).cell hq)
   have hnx:=aa (fun (h:bS (bh p x)=0) (j:Nat) (y:It) (hj:j<k+1) (hy:(ao p)[j]? =some y)=>(show bS (bh p y)=0 from by
    by_cases e:j=k
    ·subst e;rw [hxk] at hy;injection hy with hy;rw [←hy];exact h
    ·exact hf.out j y (by omega) hy))
   have hst:=aa (fun (h:¬bS (bh p x)=0)=>gS p n0 (ao p) 0 k x hxk hf.out h)
   generalize bS (bh p x)=e at hX0 hnx hst
   obtain ⟨scs,rfl,hs⟩:=hr
   obtain ⟨s0,s1,s2,s3,s4,s5,s6,s7,s8,s9,s10,s11,s12,s13,rfl⟩:=aI hs
   obtain ⟨x0,x1,x2,x3,x4,x5,x6,x7,x8,x9,x10,x11,x12,x13,x14,x15,x16⟩:=sx hcell
   have hX:∀ d os,Hid (Calls prog 23 #[.agg (aq p A1 A2 A3 A4 A5 A6 A7 c1 c2 c3 c4 c5 c6 c7),.agg #[.int .u8 x.kind,.int .i64 x.a,.int .i64 x.b,s0,s1,s2,s3,s4,s5,s6,s7,s8,s9,s10,s11,s12,s13]] (Bl (redrawn wr d) os) _):=fun d os=>aa (hX0 d os)
   have hg:=ax hbr.out hzr
   generalize x.kind=xk at*
   generalize x.a=xa at*
   generalize x.b=xb at*
   clear hcell hs hX0 hel hf hxk
   by_cases he:e=0
   ·have hf1:=aa (hnx.out he)
    subst he
    clear hnx hst
    go_wp2_with fail
    refine cD ?_
    repeat (any_goals (first|go_big_quiet_step (first|(go_at_call 23;with_reducible exact Bh (hX _ _).out))|quiet_step (first|(go_at_call 23;with_reducible exact Bh (hX _ _).out))))
    refine wpQuiet_nil ?_
    intro w3 hw3
    replace hw3:=ac hw3
    go_wp2
    go_roundw
    case rel=>exact ⟨k+1,by omega,by go_num,hf1,aa (hbr.out.trans (hw3.mono hzr))⟩
    case measure=>simp [intOf];omega
   ·have hf1:=aa (hst.out he)
    have heq:(e !=0)=true:=bne_iff_ne.2 he
    clear hnx hst
    go_wp2_with fail
    refine cD ?_
    repeat (any_goals (first|go_big_quiet_step (first|(go_at_call 23;with_reducible exact Bh (hX _ _).out))|quiet_step (first|(go_at_call 23;with_reducible exact Bh (hX _ _).out))))
    refine wpQuiet_nil ?_
    intro w3 hw3
    replace hw3:=ac hw3
    go_wp2
    go_ret2
    exact ⟨nr (by rw [hf1.out,Nat.zero_add]) (by rw [hf1.out]),hBr.out _ (hbr.out.trans (hw3.mono hzr))⟩
  ·have hf1:=aa (gR p n0 (ao p) 0 (fun y hy=>by
    obtain ⟨j,hj⟩:=List.mem_iff_getElem?.1 hy
    exact hf.out j y (by have:=(Bp.1 hj).1;omega) hj))
   go_wp2
   go_ret2
   exact ⟨nr (by rw [hf1.out]) (by rw [hf1.out]),hBr.out _ hbr.out⟩
theorem rV (A1 A2 A3 A4 A5 A6 A7:Option Addr) (p:Pg) (c1 c2 c3 c4 c5 c6 c7:Nat) (B:Nat) (w:World) (hB:B≤w.heap.size) (hP:bu w B A1 A2 A3 A4 A5 A6 A7 p) (hbig:bg p=true→(ao p).length≤dd):
  Calls prog 8 #[.agg (aq p A1 A2 A3 A4 A5 A6 A7 c1 c2 c3 c4 c5 c6 c7)] w fun e w'=>e=.returned (.tuple #[.int .i64 (lP p).1,.int .i64 (lP p).2])∧Below w.heap.size w w':=by
 unfold aq
 have hC:∀ W,Below w.heap.size w W→Calls prog 22 #[.agg (aq p A1 A2 A3 A4 A5 A6 A7 c1 c2 c3 c4 c5 c6 c7)] W fun e W'=>e=.returned (.tuple #[.int .i64 (aZ p).1,.int .i64 (aZ p).2])∧Below W.heap.size W W':=fun W hW=>
  qf A1 A2 A3 A4 A5 A6 A7 p c1 c2 c3 c4 c5 c6 c7 B W (Bj hB hW.size) (hP.below (hW.mono hB)) hbig
 unfold lP
 by_cases h:(aZ p).2=0
 ·rw [if_pos h]
  have hm:bg p=true:=by
   cases hm:bg p with
   |true=>rfl
   |false=>unfold aZ at h;rw [hm] at h;cases h
  have hok:∀ x∈ao p,aH p x=0:=by
   unfold aZ at h
   rw [if_pos hm] at h
   exact (gT _ _ h).2
  exact tT A1 A2 A3 A4 A5 A6 A7 p c1 c2 c3 c4 c5 c6 c7 B hm (aZ p).1 w hB hP (hbig hm) (fun W hW=>by rw [←h];exact hC W hW) (rA hm hok)
 ·rw [if_neg h]
  exact rU A1 A2 A3 A4 A5 A6 A7 p c1 c2 c3 c4 c5 c6 c7 (aZ p).1 (aZ p).2 h w hC
mutual
def gq:Ex→Int
 | .mk _ _ head name _ _ args=>eX (wrap64 (wrap64 (1+head.size)+name.size)) args
def eX (n:Int):List Ex→Int
 | []=>n
 |x::l=>eX (wrap64 (n+gq x)) l
end
theorem rW (l:List Ex) (x:Ex):∀ n:Int,eX n (l++ [x])=wrap64 (eX n l+gq x):=by
 induction l with
 |nil=>intro n;simp only [BH,eX]
 |cons y l ih=>intro n;simp only [BC,eX,ih]
theorem rX {l:List Ex} {k:Nat} (hk:k<l.length) (n:Int):eX n (l.take (k+1))=wrap64 (eX n (l.take k)+gq l[k]):=by
 rw [BO hk,rW]
theorem kG (e:Ex):∀ (cs:List Value) (w:World),dL w w.heap.size cs e→Calls prog 14 #[.agg cs.toArray] w fun r w'=>r=.returned (.int .i64 (gq e))∧Below w.heap.size w w':=by
 induction e using Ex.ind with
 |h op lit head name hi lo args ih=>
  intro cs w h
  obtain ⟨A,cap,rfl,-,-,-,-,-,-,hs⟩:=RE.inv h
  have hl:=hs.len
  replace ih:=aa ih
  clear h
  show Calls _ _ #[.agg #[.int .u8 op,.int .i64 lit.1,.int .u64 lit.2.1,.int .u64 lit.2.2,.string head,.string name,.int .i64 hi,.int .i64 lo,.slice A args.length cap]] _ _
  obtain ⟨wb,hwb,hsz,hw,hcb,-⟩:=al w (aO op lit head name hi lo A args.length cap) 45
  have y4:wb.cell? ⟨w.heap.size,4,none⟩=some (.string head):=hcb 4
  have y5:wb.cell? ⟨w.heap.size,5,none⟩=some (.string name):=hcb 5
  have y8:wb.cell? ⟨w.heap.size,8,none⟩=some (.slice A args.length cap):=hcb 8
  have hS:=aa (hs.below ai hw)
  have hv:=aa (show gq (.mk op lit head name hi lo args)=eX (wrap64 (wrap64 (1+head.size)+name.size)) args from by simp only [gq])
  replace hw:=aa hw
  clear hcb hs
  go_enter func14,ntmps14
  go_wp2
  go_loopw [3,4] (fun n i wr=>∃ k:Nat,k≤args.length∧i=.int .i64 k∧n=.int .i64 (eX (wrap64 (wrap64 (1+head.size)+name.size)) (args.take k))∧Hid (Below (w.heap.size+1) wb wr)∧w.heap.size+1≤wr.heap.size) (fun _ i _=>args.length-(intOf i).toNat)
  case atStart=>exact ⟨0,Bo _,rfl,by simp [eX],aa (Bi _ _),by omega⟩
  case round=>
   obtain ⟨k,hk,rfl,rfl,hbr,hzr⟩:=hrel
   have hg:=ax hbr.out hzr
   have hc:=ab hbr.out
   by_cases hlt:k<args.length
   ·obtain ⟨b,o,ecs,hA,hb,hel,hcell,hr⟩:=hS.out.2 k _ (Bk hlt)
    subst hA
    have hltz:(k:Int)<(args.length:Int):=by omega
    match ecs,hel with
    | [a0,a1,a2,a3,a4,a5,a6,a7,a8],_=>
     have x0:wb.cell? ⟨b,o+k*9,none⟩=some a0:=by simpa using hcell 0 a0 rfl
     have x1:wb.cell? ⟨b,o+k*9+1,none⟩=some a1:=by simpa using hcell 1 a1 rfl
     have x2:wb.cell? ⟨b,o+k*9+2,none⟩=some a2:=by simpa using hcell 2 a2 rfl
     have x3:wb.cell? ⟨b,o+k*9+3,none⟩=some a3:=by simpa using hcell 3 a3 rfl
     have x4:wb.cell? ⟨b,o+k*9+4,none⟩=some a4:=by simpa using hcell 4 a4 rfl
     have x5:wb.cell? ⟨b,o+k*9+5,none⟩=some a5:=by simpa using hcell 5 a5 rfl
     have x6:wb.cell? ⟨b,o+k*9+6,none⟩=some a6:=by simpa using hcell 6 a6 rfl
     have x7:wb.cell? ⟨b,o+k*9+7,none⟩=some a7:=by simpa using hcell 7 a7 rfl
     have x8:wb.cell? ⟨b,o+k*9+8,none⟩=some a8:=by simpa using hcell 8 a8 rfl
     have hcall:=ih.out _ (Bv hlt) [a0,a1,a2,a3,a4,a5,a6,a7,a8] wr (ai.more (ai.keep hr fun q hq=>hbr.out.cell (Nat.lt_succ_of_lt hq)) (by omega))
     have ht:=aa (rX hlt (wrap64 (wrap64 (1+head.size)+name.size)))
     clear hcell hr
     go_wp2_with (go_at_call 14;refine hcall.mono ?_;rintro e w' ⟨rfl,hw1⟩)
     go_roundw
     case rel=>exact ⟨k+1,by omega,by go_num,by rw [ht.out],aa (hbr.out.trans (hw1.mono hzr)),by have:=hw1.size;omega⟩
     case measure=>simp [intOf];omega
   ·go_wp2
    go_ret
    rw [hv.out,BB (by omega)]
    exact ⟨rfl,hw.out.trans (hbr.out.mono (Nat.le_succ _))⟩
mutual
def qg (n:Int):St→Int
 | .mk _ head name e thn els=>wrap64 (wrap64 (wrap64 (wrap64 (wrap64 (wrap64 (n+1)+head.size)+name.size)+gq e)+da 0 thn)+da 0 els)
def da (n:Int):List St→Int
 | []=>n
 |s::l=>da (qg n s) l
end
theorem rY (l:List St) (x:St):∀ n:Int,da n (l++ [x])=qg (da n l) x:=by
 induction l with
 |nil=>intro n;simp only [BH,da]
 |cons y l ih=>intro n;simp only [BC,da,ih]
theorem rZ {l:List St} {k:Nat} (hk:k<l.length) (n:Int):da n (l.take (k+1))=qg (da n (l.take k)) l[k]:=by
 rw [BO hk,rY]
def jN (l:List St):Prop:=∀ (A:Option Addr) (cap:Nat) (w:World),Sl 14 dR w w.heap.size A l→Calls prog 12 #[.slice A l.length cap] w fun r w'=>r=.returned (.int .i64 (da 0 l))∧Below w.heap.size w w'
def sb:St→Prop
 | .mk _ _ _ _ thn els=>jN thn∧jN els
theorem Sl.grown {α:Type} {R:CR α} {k:Nat} {w wr:World} {A:Option Addr} {xs:List α} (sR:dM R) (h:Sl k R w w.heap.size A xs) (hb:Below w.heap.size w wr) (d:Nat) (os:Array Obj):
  Sl k R (Bl (redrawn wr d) os) (Bl (redrawn wr d) os).heap.size A xs:=by
 have h1:=hb.trans ((below_regrown wr d os).mono hb.size)
 exact (h.below sR h1).more sR h1.size
theorem kH (l:List St) (ih:∀ x∈l,sb x):jN l:=by
 intro A cap w hS
 have hl:=hS.len
 replace ih:=aa ih
 replace hS:=aa hS
 go_enter func12,ntmps12
 go_wp2
 go_loopw [3,4] (fun n i wr=>∃ k:Nat,k≤l.length∧i=.int .i64 k∧n=.int .i64 (da 0 (l.take k))∧Hid (Below w.heap.size w wr)) (fun _ i _=>l.length-(intOf i).toNat)
 case atStart=>exact ⟨0,Bo _,rfl,by simp [da],aa (Bi _ _)⟩
 case round=>
  obtain ⟨k,hk,rfl,rfl,hbr⟩:=hrel
  have hg:=ax hbr.out hbr.out.size
  have hc:=ab hbr.out
  by_cases hlt:k<l.length
  ·obtain ⟨b,o,ecs,hA,hb,hel,hcell,hr⟩:=hS.out.2 k _ (Bk hlt)
   subst hA
   have hltz:(k:Int)<(l.length:Int):=by omega
   have ht:=rZ hlt 0
   have hin:=ih.out _ (Bv hlt)
   generalize hx:l[k]=x at hr ht hin
   obtain ⟨kind,head,name,e,thn,els⟩:=x
   obtain ⟨es,A1,c1,A2,c2,rfl,h0,h1,h2,he,hT,hE⟩:=RS.inv hr
   have l1:=hT.len
   have l2:=hE.len
   simp only [qg] at ht
   have hes:es.length=9:=by simpa [yu] using hel
   match es,hes with
   | [e0,e1,e2,e3,e4,e5,e6,e7,e8],_=>
    have x0:w.cell? ⟨b,o+k*14,none⟩=some (.int .u8 kind):=by simpa using hcell 0 _ rfl
    have x1:w.cell? ⟨b,o+k*14+1,none⟩=some (.string head):=hcell 1 _ rfl
    have x2:w.cell? ⟨b,o+k*14+2,none⟩=some (.string name):=hcell 2 _ rfl
    have x3:w.cell? ⟨b,o+k*14+3,none⟩=some e0:=hcell 3 _ rfl
    have x4:w.cell? ⟨b,o+k*14+4,none⟩=some e1:=hcell 4 _ rfl
    have x5:w.cell? ⟨b,o+k*14+5,none⟩=some e2:=hcell 5 _ rfl
    have x6:w.cell? ⟨b,o+k*14+6,none⟩=some e3:=hcell 6 _ rfl
    have x7:w.cell? ⟨b,o+k*14+7,none⟩=some e4:=hcell 7 _ rfl
    have x8:w.cell? ⟨b,o+k*14+8,none⟩=some e5:=hcell 8 _ rfl
    have x9:w.cell? ⟨b,o+k*14+9,none⟩=some e6:=hcell 9 _ rfl
    have x10:w.cell? ⟨b,o+k*14+10,none⟩=some e7:=hcell 10 _ rfl
    have x11:w.cell? ⟨b,o+k*14+11,none⟩=some e8:=hcell 11 _ rfl
    have x12:w.cell? ⟨b,o+k*14+12,none⟩=some (.slice A1 thn.length c1):=hcell 12 _ rfl
    have x13:w.cell? ⟨b,o+k*14+13,none⟩=some (.slice A2 els.length c2):=hcell 13 _ rfl
    have hEx:∀ d os,Calls prog 14 #[.agg #[e0,e1,e2,e3,e4,e5,e6,e7,e8]] (Bl (redrawn wr d) os) fun r w'=>r=.returned (.int .i64 (gq e))∧Below (Bl (redrawn wr d) os).heap.size (Bl (redrawn wr d) os) w':=fun d os=>
     kG e [e0,e1,e2,e3,e4,e5,e6,e7,e8] _ (ai.more (ai.keep he fun q hq=>(aA hbr.out hbr.out.size d os).cell hq) (by have:=cH wr d os;have:=hbr.out.size;omega))
    have hTx:∀ d os,Calls prog 12 #[.slice A1 thn.length c1] (Bl (redrawn wr d) os) fun r w'=>r=.returned (.int .i64 (da 0 thn))∧Below (Bl (redrawn wr d) os).heap.size (Bl (redrawn wr d) os) w':=fun d os=>
     hin.1 _ _ _ (hT.grown be hbr.out d os)
    have hLx:∀ d os,Calls prog 12 #[.slice A2 els.length c2] (Bl (redrawn wr d) os) fun r w'=>r=.returned (.int .i64 (da 0 els))∧Below (Bl (redrawn wr d) os).heap.size (Bl (redrawn wr d) os) w':=fun d os=>
     hin.2 _ _ _ (hE.grown be hbr.out d os)
    generalize gq e=ze at ht hEx
    generalize da 0 thn=zt at ht hTx
    generalize da 0 els=zs at ht hLx
    generalize thn.length=n1 at*
    generalize els.length=n2 at*
    replace hEx:=fun d os=>aa (hEx d os)
    replace hTx:=fun d os=>aa (hTx d os)
    replace hLx:=fun d os=>aa (hLx d os)
    replace ht:=aa ht
    clear hin hcell hr hT hE he hel hx h0 h1 h2
    go_wp2_with fail
    refine cD ?_
    repeat (any_goals (first|go_big_quiet_step (first|(go_at_call 14;exact Bh (hEx _ _).out)|(go_at_call 12;first|with_reducible exact Bh (hTx _ _).out|with_reducible exact Bh (hLx _ _).out))|quiet_step (first|(go_at_call 14;exact Bh (hEx _ _).out)|(go_at_call 12;first|with_reducible exact Bh (hTx _ _).out|with_reducible exact Bh (hLx _ _).out))))
    refine wpQuiet_nil ?_
    intro w1 hw1
    replace hw1:=ac hw1
    go_wp2
    go_roundw
    case rel=>exact ⟨k+1,by omega,by go_num,by rw [ht.out],aa (hbr.out.trans (hw1.mono hbr.out.size))⟩
    case measure=>simp [intOf];omega
  ·go_wp2
   go_ret
   rw [BB (by omega)]
   exact ⟨rfl,hbr.out⟩
theorem wE (s:St):sb s:=by
 induction s using St.ind with
 |h kind head name e thn els ih1 ih2=>exact ⟨kH thn ih1,kH els ih2⟩
theorem ns (l:List St):jN l:=kH l fun x _=>wE x
def kI (n:Int):List ByteArray→Int
 | []=>n
 |s::l=>kI (wrap64 (n+s.size)) l
theorem wF (l:List ByteArray) (x:ByteArray):∀ n:Int,kI n (l++ [x])=wrap64 (kI n l+x.size):=by
 induction l with
 |nil=>intro n;simp only [BH,kI]
 |cons y l ih=>intro n;simp only [BC,kI,ih]
theorem wG {l:List ByteArray} {k:Nat} (hk:k<l.length) (n:Int):kI n (l.take (k+1))=wrap64 (kI n (l.take k)+l[k].size):=by
 rw [BO hk,wF]
def kJ (n:Int):List Fd→Int
 | []=>n
 |s::l=>kJ (wrap64 (n+s.1.size)) l
theorem wH (l:List Fd) (x:Fd):∀ n:Int,kJ n (l++ [x])=wrap64 (kJ n l+x.1.size):=by
 induction l with
 |nil=>intro n;simp only [BH,kJ]
 |cons y l ih=>intro n;simp only [BC,kJ,ih]
theorem wI {l:List Fd} {k:Nat} (hk:k<l.length) (n:Int):kJ n (l.take (k+1))=wrap64 (kJ n (l.take k)+l[k].1.size):=by
 rw [BO hk,wH]
theorem ia (l:List ByteArray) (A:Option Addr) (cap:Nat) (w:World) (hS:Sl 1 iy w w.heap.size A l):
  Calls prog 13 #[.slice A l.length cap] w fun r w'=>r=.returned (.int .i64 (kI l.length l))∧Below w.heap.size w w':=by
 have hl:=hS.len
 go_enter func13,ntmps13
 go_wp2
 go_loopw [3,4] (fun n i wr=>∃ k:Nat,k≤l.length∧i=.int .i64 k∧n=.int .i64 (kI l.length (l.take k))∧wr=w) (fun _ i _=>l.length-(intOf i).toNat)
 case atStart=>exact ⟨0,Bo _,rfl,by simp [kI],rfl⟩
 case round=>
  obtain ⟨k,hk,rfl,rfl,rfl⟩:=hrel
  by_cases hlt:k<l.length
  ·obtain ⟨b,o,rfl,hb,hcell,hz⟩:=hS.str hlt
   have hltz:(k:Int)<(l.length:Int):=by omega
   have ht:=aa (wG hlt l.length)
   go_wp2
   go_roundw
   case rel=>exact ⟨k+1,by omega,by go_num,by rw [ht.out],by trivial⟩
   case measure=>simp [intOf];omega
  ·go_wp2
   go_ret
   rw [BB (by omega)]
   exact ⟨rfl,Bi _ _⟩
theorem gr (l:List Fd) (A:Option Addr) (cap:Nat) (w:World) (hS:Sl 2 sq w w.heap.size A l):
  Calls prog 11 #[.slice A l.length cap] w fun r w'=>r=.returned (.int .i64 (kJ l.length l))∧Below w.heap.size w w':=by
 have hl:=hS.len
 go_enter func11,ntmps11
 go_wp2
 go_loopw [3,4] (fun n i wr=>∃ k:Nat,k≤l.length∧i=.int .i64 k∧n=.int .i64 (kJ l.length (l.take k))∧wr=w) (fun _ i _=>l.length-(intOf i).toNat)
 case atStart=>exact ⟨0,Bo _,rfl,by simp [kJ],rfl⟩
 case round=>
  obtain ⟨k,hk,rfl,rfl,rfl⟩:=hrel
  by_cases hlt:k<l.length
  ·obtain ⟨b,o,ecs,rfl,hb,hel,hcell,rfl,hz,hi⟩:=hS.2 k _ (Bk hlt)
   have hltz:(k:Int)<(l.length:Int):=by omega
   have x0:wr.cell? ⟨b,o+k*2,none⟩=some (.string l[k].1):=by simpa using hcell 0 _ rfl
   have x1:wr.cell? ⟨b,o+k*2+1,none⟩=some (.int .i64 l[k].2):=hcell 1 _ rfl
   have ht:=aa (wI hlt l.length)
   clear hcell
   go_wp2
   go_roundw
   case rel=>exact ⟨k+1,by omega,by go_num,by rw [ht.out],by trivial⟩
   case measure=>simp [intOf];omega
  ·go_wp2
   go_ret
   rw [BB (by omega)]
   exact ⟨rfl,Bi _ _⟩
end Go.Proofs.YtbbdhknagofghaaGreat

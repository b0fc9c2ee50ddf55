import Derived.Test.YtbbdhknagofghaaGreatTcp27
import Derived.Test.YtbbdhknagofghaaGreatTcp29
set_option linter.all false
set_option maxHeartbeats 4000000
set_option maxRecDepth 100000
open Go.Proofs.Tryz
namespace Go.Proofs.YtbbdhknagofghaaGreat
open _root_.Nat renaming lt_of_lt_of_le→Bg, le_trans→Bj, zero_le→Bo
open _root_.Go.RowKit.Below renaming refl→Bi
open _root_.List renaming getElem?_eq_getElem→Bk, getElem_mem→Bv, isEmpty_iff→Bx
open _root_.Bool renaming and_eq_true→Bn, true_and→Bt, false_and→Bu, eq_false_iff→BD, and_assoc→BJ
open Go.RowKit
def Av:Prop:=∀ (h1 l1 h2 l2:Int) (w:World),ei h1→ei l1→ei h2→ei l2→Calls prog 229 #[.agg #[.int .u64 h1,.int .u64 l1],.agg #[.int .u64 h2,.int .u64 l2]] w fun e w'=>e=.returned (.int .i64 (lN (h1*18446744073709551616+l1) (h2*18446744073709551616+l2)))∧Below w.heap.size w w'
theorem Ah {op:Int} {lit:Lt} {head name:ByteArray} {hi lo:Int} {n:Nat} (h:fp op lit head name hi lo n=true) (ho:op=14∨op=15):n=2:=by
 unfold fp at h
 rcases ho with rfl|rfl
 ·rw [show bj 14=some ((false,false,false,false),2) by decide] at h
  simp only [Bn,decide_eq_true_eq] at h
  omega
 ·rw [show bj 15=some ((false,false,false,false),2) by decide] at h
  simp only [Bn,decide_eq_true_eq] at h
  omega
theorem zr (op:Int) (lit:Lt) (head name:ByteArray) (hi lo:Int) (args:List Ex):aT (.mk op lit head name hi lo args)=(fp op lit head name hi lo args.length&&(lH op args&&args.all aT)):=by
 simp only [aT,fz,BJ]
theorem vL (hCmp:Av) (e:Ex):∀ (cs:List Value) (w:World),dL w w.heap.size cs e→Calls prog 212 #[.agg cs.toArray] w fun r w'=>r=.returned (.bool (aT e))∧Below w.heap.size w w':=by
 induction e using Ex.ind with
 |h op lit head name hi lo args ih=>
  intro cs w h
  obtain ⟨A,cap,rfl,hop,hlit,-,-,-,-,hs⟩:=RE.inv h
  have hl:=hs.len
  replace ih:=aa ih
  replace hCmp:=aa hCmp
  clear h
  show Calls _ _ #[.agg #[.int .u8 op,.int .i64 lit.1,.int .u64 lit.2.1,.int .u64 lit.2.2,.string head,.string name,.int .i64 hi,.int .i64 lo,.slice A args.length cap]] _ _
  obtain ⟨wb,hwb,hsz,hba,hcb,-⟩:=al w (aO op lit head name hi lo A args.length cap) 45
  obtain ⟨y0,y1,y2,y3,y4,y5,y6,y7,y8⟩:=bU hcb
  have hb0:=aa (show Below wb.heap.size wb wb from Bi _ _)
  have hBk:=aa (show ∀ W,Below wb.heap.size wb W→Below w.heap.size w W from fun W hb=>hba.trans (hb.mono (by omega)))
  have hS:=aa (hs.below ai hba)
  have hl1:w.heap.size<wb.heap.size:=by omega
  have hOne:=vG op lit head name hi lo A args.length cap wb hop hlit hl
  have hv0:=zr op lit head name hi lo args
  have hlen2:=fun h ho=>Ah (n:=args.length) (op:=op) (lit:=lit) (head:=head) (name:=name) (hi:=hi) (lo:=lo) h ho
  generalize fp op lit head name hi lo args.length=z1 at hOne hv0 hlen2
  clear hcb hba hs
  cases z1 with
  |false=>
   have hv:=aa hv0
   go_enter func212,ntmps212
   go_wp2_with (go_at_call 228;refine hOne.mono ?_;rintro e w1 ⟨rfl,hb1⟩)
   go_ret
   exact ⟨ah (by rw [hv.out];rfl),hBk.out _ hb1⟩
  |true=>
   rw [Bt] at hv0
   by_cases ho:op=14∨op=15
   ·skip
    have h2:=hlen2 rfl ho
    have hsb:lH op args=(args[1]?).elim false uG:=by unfold lH;rw [if_pos ho]
    obtain ⟨b,o,ecs,hA,hb,hel,hcell,hr⟩:=hS.out.2 1 _ (Bk (by omega))
    have h1z:(1:Int)<(args.length:Int):=by omega
    rw [Bk (by omega),Option.elim_some] at hsb
    generalize args[1]=x at hr hsb
    obtain ⟨xop,xlit,xhead,xname,xhi,xlo,xargs⟩:=x
    obtain ⟨XA,xcap,rfl,hxop,hxlit,-,-,-,-,xs⟩:=RE.inv hr
    have hla2:=xs.len
    subst hA
    have hbw:b<wb.heap.size:=by omega
    obtain ⟨u0,u1,u2,u3,u4,u5,u6,u7,u8⟩:=cl hcell
    clear hcell hr xs hlen2 h2
    rw [hsb] at hv0
    simp only [uG] at hv0
    have hnum:xlit.2.1*18446744073709551616+xlit.2.2=lG xlit:=rfl
    have hCx:∀ W,Calls prog 229 #[.agg #[.int .u64 xlit.2.1,.int .u64 xlit.2.2],.agg #[.int .u64 0,.int .u64 127]] W fun e w'=>e=.returned (.int .i64 (lN (lG xlit) 127))∧Below W.heap.size W w':=fun W=>hCmp.out xlit.2.1 xlit.2.2 0 127 W hxlit.2.1 hxlit.2.2 (by unfold ei;omega) (by unfold ei;omega)
    have hz:(0<lN (lG xlit) 127)↔¬lG xlit≤127:=by
     unfold lN
     split
     ·simp;omega
     ·split
      ·simp;omega
      ·simp;omega
    generalize lN (lG xlit) 127=z at hCx hz
    generalize lG xlit=nv at hv0 hz
    replace hCx:=aa hCx
    clear hnum hsb hel hop hlit hxop hxlit
    by_cases hx1:xop=1
    ·rw [decide_eq_true hx1,Bt] at hv0
     by_cases hx2:xlit.1=0
     ·rw [decide_eq_true hx2,Bt] at hv0
      by_cases hx3:nv≤127
      ·rw [decide_eq_true hx3,Bt] at hv0
       have hzz:¬(0<z):=fun h=>hz.1 h hx3
       have hv:=aa hv0
       clear hv0 hz hx3
       subst hx1
       generalize xlit.1=xw at*
       subst hx2
       rcases ho with rfl|rfl
       ·skip
        go_enter func212,ntmps212
        go_wp2_with fail
        refine hOne.mono ?_
        rintro e w1 ⟨rfl,hb1⟩
        have k1:=ab hb1
        have hz1:=hb1.size
        obtain ⟨ws,hws,hszs,hwS,hcs,-⟩:=al w1 #[.int .u8 1,.int .i64 0,.int .u64 xlit.2.1,.int .u64 xlit.2.2,.string xhead,.string xname,.int .i64 xhi,.int .i64 xlo,.slice XA xargs.length xcap] 45
        obtain ⟨v0,v1,v2,v3,v4,v5,v6,v7,v8⟩:=bU hcs
        have hbs:=hb1.trans (hwS.mono hz1)
        have ks:=ab hbs
        have hZs:=hbs.size
        have hbs':=aa hbs
        have hCm:=hCx.out ws
        clear hcs hwS hbs hb1 hOne hb0 hszs
        go_wp2_with fail
        refine hCm.mono ?_
        rintro e w2 ⟨rfl,hb2⟩
        have hB2:=aa (hbs'.out.trans (hb2.mono hZs))
        have k2:=ab hB2.out
        clear hCm hb2 k1 ks
        go_wp2
        clear k2
        go_loopw [4] (fun i wr=>∃ k:Nat,k≤args.length∧i=.int .i64 k∧Hid ((args.take k).all aT=true)∧Hid (Below wb.heap.size wb wr)) (fun i _=>args.length-(intOf i).toNat)
        case atStart=>exact ⟨0,Bo _,rfl,aa (by simp),hB2⟩
        case round=>
         clear hB2
         obtain ⟨k,hk,rfl,hq,hbr⟩:=hrel
         have hc:=ab hbr.out
         have hzr:=hbr.out.size
         by_cases hlt:k<args.length
         ·obtain ⟨b,o,ecs,hA,hb,hel,hcell,hr⟩:=hS.out.2 k _ (Bk hlt)
          first|subst hA|(injection hA with hA;injection hA with e1 e2;subst e1 e2)
          have hltz:(k:Int)<(args.length:Int):=by omega
          have hbw:b<wb.heap.size:=by omega
          have hcall:=fun cs (hcs:dL wb w.heap.size cs args[k])=>ih.out _ (Bv hlt) cs wr (ai.more (ai.keep hcs fun q hq=>hbr.out.cell (Bg hq (by omega))) (by omega))
          have hnx:=fun h=>ci hlt hq.out h
          have hst:=fun h=>bT (p:=aT) hlt h
          have hre:=hr
          generalize args[k]=x at hr hre hcall hnx hst
          obtain ⟨xop,xlit,xhead,xname,xhi,xlo,xargs⟩:=x
          obtain ⟨XA,xcap,rfl,-,-,-,-,-,-,xs⟩:=RE.inv hr
          have hla2:=xs.len
          obtain ⟨x0,x1,x2,x3,x4,x5,x6,x7,x8⟩:=cl hcell
          have hX:Calls prog 212 #[.agg (aO xop xlit xhead xname xhi xlo XA xargs.length xcap)] wr fun r w'=>r=.returned (.bool (aT (.mk xop xlit xhead xname xhi xlo xargs)))∧Below wr.heap.size wr w':=hcall _ hre
          clear hcell hr hre hcall xs
          generalize aT (.mk xop xlit xhead xname xhi xlo xargs)=z at hX hnx hst
          cases z with
          |false=>
           have hres:=aa (hst rfl)
           clear hnx hst
           go_wp2_with (go_at_call 212;refine hX.mono ?_;rintro e w2 ⟨rfl,hb2⟩)
           go_ret
           exact ⟨ah (hv.out.trans hres.out).symm,hBk.out _ (hbr.out.trans (hb2.mono hzr))⟩
          |true=>
           have hres:=aa (hnx rfl)
           clear hnx hst
           go_wp2_with (go_at_call 212;refine hX.mono ?_;rintro e w2 ⟨rfl,hb2⟩)
           go_roundw
           case rel=>exact ⟨k+1,by omega,by go_num,hres,aa (hbr.out.trans (hb2.mono hzr))⟩
           case measure=>simp [intOf];omega
         ·have hres:=aa (cJ hq.out hlt)
          go_wp2
          go_ret
          exact ⟨ah (hv.out.trans hres.out).symm,hBk.out _ hbr.out⟩
       ·skip
        go_enter func212,ntmps212
        go_wp2_with fail
        refine hOne.mono ?_
        rintro e w1 ⟨rfl,hb1⟩
        have k1:=ab hb1
        have hz1:=hb1.size
        obtain ⟨ws,hws,hszs,hwS,hcs,-⟩:=al w1 #[.int .u8 1,.int .i64 0,.int .u64 xlit.2.1,.int .u64 xlit.2.2,.string xhead,.string xname,.int .i64 xhi,.int .i64 xlo,.slice XA xargs.length xcap] 45
        obtain ⟨v0,v1,v2,v3,v4,v5,v6,v7,v8⟩:=bU hcs
        have hbs:=hb1.trans (hwS.mono hz1)
        have ks:=ab hbs
        have hZs:=hbs.size
        have hbs':=aa hbs
        have hCm:=hCx.out ws
        clear hcs hwS hbs hb1 hOne hb0 hszs
        go_wp2_with fail
        refine hCm.mono ?_
        rintro e w2 ⟨rfl,hb2⟩
        have hB2:=aa (hbs'.out.trans (hb2.mono hZs))
        have k2:=ab hB2.out
        clear hCm hb2 k1 ks
        go_wp2
        clear k2
        go_loopw [4] (fun i wr=>∃ k:Nat,k≤args.length∧i=.int .i64 k∧Hid ((args.take k).all aT=true)∧Hid (Below wb.heap.size wb wr)) (fun i _=>args.length-(intOf i).toNat)
        case atStart=>exact ⟨0,Bo _,rfl,aa (by simp),hB2⟩
        case round=>
         clear hB2
         obtain ⟨k,hk,rfl,hq,hbr⟩:=hrel
         have hc:=ab hbr.out
         have hzr:=hbr.out.size
         by_cases hlt:k<args.length
         ·obtain ⟨b,o,ecs,hA,hb,hel,hcell,hr⟩:=hS.out.2 k _ (Bk hlt)
          first|subst hA|(injection hA with hA;injection hA with e1 e2;subst e1 e2)
          have hltz:(k:Int)<(args.length:Int):=by omega
          have hbw:b<wb.heap.size:=by omega
          have hcall:=fun cs (hcs:dL wb w.heap.size cs args[k])=>ih.out _ (Bv hlt) cs wr (ai.more (ai.keep hcs fun q hq=>hbr.out.cell (Bg hq (by omega))) (by omega))
          have hnx:=fun h=>ci hlt hq.out h
          have hst:=fun h=>bT (p:=aT) hlt h
          have hre:=hr
          generalize args[k]=x at hr hre hcall hnx hst
          obtain ⟨xop,xlit,xhead,xname,xhi,xlo,xargs⟩:=x
          obtain ⟨XA,xcap,rfl,-,-,-,-,-,-,xs⟩:=RE.inv hr
          have hla2:=xs.len
          obtain ⟨x0,x1,x2,x3,x4,x5,x6,x7,x8⟩:=cl hcell
          have hX:Calls prog 212 #[.agg (aO xop xlit xhead xname xhi xlo XA xargs.length xcap)] wr fun r w'=>r=.returned (.bool (aT (.mk xop xlit xhead xname xhi xlo xargs)))∧Below wr.heap.size wr w':=hcall _ hre
          clear hcell hr hre hcall xs
          generalize aT (.mk xop xlit xhead xname xhi xlo xargs)=z at hX hnx hst
          cases z with
          |false=>
           have hres:=aa (hst rfl)
           clear hnx hst
           go_wp2_with (go_at_call 212;refine hX.mono ?_;rintro e w2 ⟨rfl,hb2⟩)
           go_ret
           exact ⟨ah (hv.out.trans hres.out).symm,hBk.out _ (hbr.out.trans (hb2.mono hzr))⟩
          |true=>
           have hres:=aa (hnx rfl)
           clear hnx hst
           go_wp2_with (go_at_call 212;refine hX.mono ?_;rintro e w2 ⟨rfl,hb2⟩)
           go_roundw
           case rel=>exact ⟨k+1,by omega,by go_num,hres,aa (hbr.out.trans (hb2.mono hzr))⟩
           case measure=>simp [intOf];omega
         ·have hres:=aa (cJ hq.out hlt)
          go_wp2
          go_ret
          exact ⟨ah (hv.out.trans hres.out).symm,hBk.out _ hbr.out⟩
      ·rw [decide_eq_false hx3,Bu] at hv0
       have hzz:0<z:=hz.2 hx3
       have hv:=aa hv0
       clear hv0 hz hx3
       subst hx1
       generalize xlit.1=xw at*
       subst hx2
       rcases ho with rfl|rfl
       ·skip
        go_enter func212,ntmps212
        go_wp2_with fail
        refine hOne.mono ?_
        rintro e w1 ⟨rfl,hb1⟩
        have k1:=ab hb1
        have hz1:=hb1.size
        obtain ⟨ws,hws,hszs,hwS,hcs,-⟩:=al w1 #[.int .u8 1,.int .i64 0,.int .u64 xlit.2.1,.int .u64 xlit.2.2,.string xhead,.string xname,.int .i64 xhi,.int .i64 xlo,.slice XA xargs.length xcap] 45
        obtain ⟨v0,v1,v2,v3,v4,v5,v6,v7,v8⟩:=bU hcs
        have hbs:=hb1.trans (hwS.mono hz1)
        have ks:=ab hbs
        have hZs:=hbs.size
        have hbs':=aa hbs
        have hCm:=hCx.out ws
        clear hcs hwS hbs hb1 hOne hb0 hszs
        go_wp2_with fail
        refine hCm.mono ?_
        rintro e w2 ⟨rfl,hb2⟩
        have hB2:=aa (hbs'.out.trans (hb2.mono hZs))
        go_wp2
        go_ret
        exact ⟨ah hv.out.symm,hBk.out _ hB2.out⟩
       ·skip
        go_enter func212,ntmps212
        go_wp2_with fail
        refine hOne.mono ?_
        rintro e w1 ⟨rfl,hb1⟩
        have k1:=ab hb1
        have hz1:=hb1.size
        obtain ⟨ws,hws,hszs,hwS,hcs,-⟩:=al w1 #[.int .u8 1,.int .i64 0,.int .u64 xlit.2.1,.int .u64 xlit.2.2,.string xhead,.string xname,.int .i64 xhi,.int .i64 xlo,.slice XA xargs.length xcap] 45
        obtain ⟨v0,v1,v2,v3,v4,v5,v6,v7,v8⟩:=bU hcs
        have hbs:=hb1.trans (hwS.mono hz1)
        have ks:=ab hbs
        have hZs:=hbs.size
        have hbs':=aa hbs
        have hCm:=hCx.out ws
        clear hcs hwS hbs hb1 hOne hb0 hszs
        go_wp2_with fail
        refine hCm.mono ?_
        rintro e w2 ⟨rfl,hb2⟩
        have hB2:=aa (hbs'.out.trans (hb2.mono hZs))
        go_wp2
        go_ret
        exact ⟨ah hv.out.symm,hBk.out _ hB2.out⟩
     ·rw [decide_eq_false hx2] at hv0
      simp only [Bu,Bool.and_false] at hv0
      have hv:=aa hv0
      clear hv0 hz
      subst hx1
      rcases ho with rfl|rfl
      ·skip
       go_enter func212,ntmps212
       go_wp2_with fail
       refine hOne.mono ?_
       rintro e w1 ⟨rfl,hb1⟩
       have k1:=ab hb1
       have hz1:=hb1.size
       obtain ⟨ws,hws,hszs,hwS,hcs,-⟩:=al w1 (aO 1 xlit xhead xname xhi xlo XA xargs.length xcap) 45
       obtain ⟨v0,v1,v2,v3,v4,v5,v6,v7,v8⟩:=bU hcs
       have hbs:=hb1.trans (hwS.mono hz1)
       have ks:=ab hbs
       have hZs:=hbs.size
       have hbs':=aa hbs
       have hCm:=hCx.out ws
       clear hcs hwS hbs hb1 hOne hb0 hszs
       go_wp2
       go_ret
       exact ⟨ah hv.out.symm,hBk.out _ hbs'.out⟩
      ·skip
       go_enter func212,ntmps212
       go_wp2_with fail
       refine hOne.mono ?_
       rintro e w1 ⟨rfl,hb1⟩
       have k1:=ab hb1
       have hz1:=hb1.size
       obtain ⟨ws,hws,hszs,hwS,hcs,-⟩:=al w1 (aO 1 xlit xhead xname xhi xlo XA xargs.length xcap) 45
       obtain ⟨v0,v1,v2,v3,v4,v5,v6,v7,v8⟩:=bU hcs
       have hbs:=hb1.trans (hwS.mono hz1)
       have ks:=ab hbs
       have hZs:=hbs.size
       have hbs':=aa hbs
       have hCm:=hCx.out ws
       clear hcs hwS hbs hb1 hOne hb0 hszs
       go_wp2
       go_ret
       exact ⟨ah hv.out.symm,hBk.out _ hbs'.out⟩
    ·rw [decide_eq_false hx1] at hv0
     simp only [Bu] at hv0
     have hv:=aa hv0
     clear hv0 hz
     rcases ho with rfl|rfl
     ·skip
      go_enter func212,ntmps212
      go_wp2_with fail
      refine hOne.mono ?_
      rintro e w1 ⟨rfl,hb1⟩
      have k1:=ab hb1
      have hz1:=hb1.size
      obtain ⟨ws,hws,hszs,hwS,hcs,-⟩:=al w1 (aO xop xlit xhead xname xhi xlo XA xargs.length xcap) 45
      obtain ⟨v0,v1,v2,v3,v4,v5,v6,v7,v8⟩:=bU hcs
      have hbs:=hb1.trans (hwS.mono hz1)
      have ks:=ab hbs
      have hZs:=hbs.size
      have hbs':=aa hbs
      have hCm:=hCx.out ws
      clear hcs hwS hbs hb1 hOne hb0 hszs
      go_wp2
      go_ret
      exact ⟨ah hv.out.symm,hBk.out _ hbs'.out⟩
     ·skip
      go_enter func212,ntmps212
      go_wp2_with fail
      refine hOne.mono ?_
      rintro e w1 ⟨rfl,hb1⟩
      have k1:=ab hb1
      have hz1:=hb1.size
      obtain ⟨ws,hws,hszs,hwS,hcs,-⟩:=al w1 (aO xop xlit xhead xname xhi xlo XA xargs.length xcap) 45
      obtain ⟨v0,v1,v2,v3,v4,v5,v6,v7,v8⟩:=bU hcs
      have hbs:=hb1.trans (hwS.mono hz1)
      have ks:=ab hbs
      have hZs:=hbs.size
      have hbs':=aa hbs
      have hCm:=hCx.out ws
      clear hcs hwS hbs hb1 hOne hb0 hszs
      go_wp2
      go_ret
      exact ⟨ah hv.out.symm,hBk.out _ hbs'.out⟩
   ·have ho':(op==14 ||op==15)=false:=by simpa using ho
    have o1:¬op=14:=fun h=>ho (.inl h)
    have o2:¬op=15:=fun h=>ho (.inr h)
    have hsb:lH op args=true:=by unfold lH;rw [if_neg ho]
    rw [hsb,Bt] at hv0
    have hv:=aa hv0
    clear hv0 hsb hlen2 ho
    go_enter func212,ntmps212
    go_wp2_with fail
    refine hOne.mono ?_
    rintro e w1 ⟨rfl,hb1⟩
    have k1:=ab hb1
    have hb1':=aa hb1
    clear hOne hb0 hb1
    go_wp2
    clear k1
    go_loopw [4] (fun i wr=>∃ k:Nat,k≤args.length∧i=.int .i64 k∧Hid ((args.take k).all aT=true)∧Hid (Below wb.heap.size wb wr)) (fun i _=>args.length-(intOf i).toNat)
    case atStart=>exact ⟨0,Bo _,rfl,aa (by simp),hb1'⟩
    case round=>
     clear hb1'
     obtain ⟨k,hk,rfl,hq,hbr⟩:=hrel
     have hc:=ab hbr.out
     have hzr:=hbr.out.size
     by_cases hlt:k<args.length
     ·obtain ⟨b,o,ecs,hA,hb,hel,hcell,hr⟩:=hS.out.2 k _ (Bk hlt)
      first|subst hA|(injection hA with hA;injection hA with e1 e2;subst e1 e2)
      have hltz:(k:Int)<(args.length:Int):=by omega
      have hbw:b<wb.heap.size:=by omega
      have hcall:=fun cs (hcs:dL wb w.heap.size cs args[k])=>ih.out _ (Bv hlt) cs wr (ai.more (ai.keep hcs fun q hq=>hbr.out.cell (Bg hq (by omega))) (by omega))
      have hnx:=fun h=>ci hlt hq.out h
      have hst:=fun h=>bT (p:=aT) hlt h
      have hre:=hr
      generalize args[k]=x at hr hre hcall hnx hst
      obtain ⟨xop,xlit,xhead,xname,xhi,xlo,xargs⟩:=x
      obtain ⟨XA,xcap,rfl,-,-,-,-,-,-,xs⟩:=RE.inv hr
      have hla2:=xs.len
      obtain ⟨x0,x1,x2,x3,x4,x5,x6,x7,x8⟩:=cl hcell
      have hX:Calls prog 212 #[.agg (aO xop xlit xhead xname xhi xlo XA xargs.length xcap)] wr fun r w'=>r=.returned (.bool (aT (.mk xop xlit xhead xname xhi xlo xargs)))∧Below wr.heap.size wr w':=hcall _ hre
      clear hcell hr hre hcall xs
      generalize aT (.mk xop xlit xhead xname xhi xlo xargs)=z at hX hnx hst
      cases z with
      |false=>
       have hres:=aa (hst rfl)
       clear hnx hst
       go_wp2_with (go_at_call 212;refine hX.mono ?_;rintro e w2 ⟨rfl,hb2⟩)
       go_ret
       exact ⟨ah (hv.out.trans hres.out).symm,hBk.out _ (hbr.out.trans (hb2.mono hzr))⟩
      |true=>
       have hres:=aa (hnx rfl)
       clear hnx hst
       go_wp2_with (go_at_call 212;refine hX.mono ?_;rintro e w2 ⟨rfl,hb2⟩)
       go_roundw
       case rel=>exact ⟨k+1,by omega,by go_num,hres,aa (hbr.out.trans (hb2.mono hzr))⟩
       case measure=>simp [intOf];omega
     ·have hres:=aa (cJ hq.out hlt)
      go_wp2
      go_ret
      exact ⟨ah (hv.out.trans hres.out).symm,hBk.out _ hbr.out⟩
theorem vM:Av:=fun h1 l1 h2 l2 w a b c d=>vK h1 l1 h2 l2 w a b c d
theorem fx {B:Nat} (e:Ex) (cs:List Value) (w:World) (hB:B≤w.heap.size) (he:dL w B cs e):
  Calls prog 172 #[.agg cs.toArray] w fun r w'=>r=.returned (.bool (cj e))∧Below w.heap.size w w':=by
 have hD0:=fun (W:World) (hb:Below w.heap.size w W)=>rE e cs W (ai.more (ai.keep he fun q hq=>hb.cell (Bg hq hB)) (Bj hB hb.size))
 have hA0:=fun (W:World) (hb:Below w.heap.size w W)=>vL vM e cs W (ai.more (ai.keep he fun q hq=>hb.cell (Bg hq hB)) (Bj hB hb.size))
 have hds:=he.2
 obtain ⟨op,lit,head,name,hi,lo,args⟩:=e
 obtain ⟨A,cap,rfl,-,-,-,-,-,-,hs⟩:=RE.inv he
 have hl:=hs.len
 obtain ⟨wb,hwb,hsz,hba,hcb,-⟩:=al w (aO op lit head name hi lo A args.length cap) 45
 obtain ⟨y0,y1,y2,y3,y4,y5,y6,y7,y8⟩:=bU hcb
 have hb0:Below wb.heap.size wb wb:=Bi _ _
 have hBk:=aa (show ∀ W,Below wb.heap.size wb W→Below w.heap.size w W from fun W hb=>hba.trans (hb.mono (by omega)))
 have q1:Hid (∀ (W:World),Below wb.heap.size wb W→Calls prog 211 #[.agg (aO op lit head name hi lo A args.length cap)] W fun r w'=>r=.returned (.int .i64 (bQ (.mk op lit head name hi lo args):Int))∧Below wb.heap.size wb w'):=aa (fun W hb=>(hD0 W (hBk.out W hb)).mono fun e w' h=>⟨h.1,hb.trans (h.2.mono hb.size)⟩)
 have q2:Hid (∀ (W:World),Below wb.heap.size wb W→Calls prog 212 #[.agg (aO op lit head name hi lo A args.length cap)] W fun r w'=>r=.returned (.bool (aT (.mk op lit head name hi lo args)))∧Below wb.heap.size wb w'):=aa (fun W hb=>(hA0 W (hBk.out W hb)).mono fun e w' h=>⟨h.1,hb.trans (h.2.mono hb.size)⟩)
 have hv:cj (.mk op lit head name hi lo args)=(decide (bQ (.mk op lit head name hi lo args)≤16)&&aT (.mk op lit head name hi lo args)):=rfl
 rw [hv]
 generalize bQ (.mk op lit head name hi lo args)=d at q1 hds ⊢
 generalize aT (.mk op lit head name hi lo args)=z at q2 ⊢
 show Calls _ _ #[.agg #[.int .u8 op,.int .i64 lit.1,.int .u64 lit.2.1,.int .u64 lit.2.2,.string head,.string name,.int .i64 hi,.int .i64 lo,.slice A args.length cap]] _ _
 clear hD0 hA0 he hs hcb hba hv
 by_cases hd:d≤16
 rw [decide_eq_true hd]
 have hdz:(d:Int)≤16:=by omega
 rotate_right
 rw [decide_eq_false hd]
 have hdz:¬(d:Int)≤16:=by omega
 all_goals
  go_enter func172,ntmps172
  go_wp2_with (first|(go_at_call 211;refine (q1.out _ ‹_›).mono ?_;rintro e w1 ⟨rfl,hb1⟩;have kb1:=ab hb1)|(go_at_call 212;refine (q2.out _ ‹_›).mono ?_;rintro e w2 ⟨rfl,hb2⟩))
  go_ret
  exact ⟨ah (by simp),hBk.out _ ‹_›⟩
theorem rH {B:Nat} (l:List Ex) (A:Option Addr) (cap:Nat) (w:World) (hB:B≤w.heap.size) (h:Sl 9 dL w B A l):
  Calls prog 169 #[.slice A l.length cap] w fun e w'=>e=.returned (.bool (l.all cj))∧Below w.heap.size w w':=by
 have hl:=h.len
 have hS:=aa h
 clear h
 go_enter func169,ntmps169
 go_wp2
 go_loopw [3] (fun i wr=>∃ k:Nat,k≤l.length∧i=.int .i64 k∧Hid ((l.take k).all cj=true)∧Hid (Below w.heap.size w wr)) (fun i _=>l.length-(intOf i).toNat)
 case atStart=>exact ⟨0,Bo _,rfl,aa (by simp),aa (Bi _ _)⟩
 case round=>
  obtain ⟨k,hk,rfl,hq,hbr⟩:=hrel
  have hc:=ab hbr.out
  have hzr:=hbr.out.size
  by_cases hlt:k<l.length
  ·obtain ⟨b,o,ecs,hA,hb,hel,hcell,hr⟩:=hS.out.2 k _ (Bk hlt)
   subst hA
   have hltz:(k:Int)<(l.length:Int):=by omega
   have hbw:b<w.heap.size:=by omega
   have hcall:=fun cs (hcs:dL w B cs l[k])=>fx l[k] cs wr (Bj hB hzr) (ai.keep hcs fun q hq=>hbr.out.cell (Bg hq hB))
   have hnx:=fun h=>ci (p:=cj) hlt hq.out h
   have hst:=fun h=>bT (p:=cj) hlt h
   have hre:=hr
   generalize l[k]=x at hr hre hcall hnx hst
   obtain ⟨xop,xlit,xhead,xname,xhi,xlo,xargs⟩:=x
   obtain ⟨XA,xcap,rfl,-,-,-,-,-,-,xs⟩:=RE.inv hr
   have hla2:=xs.len
   obtain ⟨x0,x1,x2,x3,x4,x5,x6,x7,x8⟩:=cl hcell
   have hX:Calls prog 172 #[.agg (aO xop xlit xhead xname xhi xlo XA xargs.length xcap)] wr fun r w'=>r=.returned (.bool (cj (.mk xop xlit xhead xname xhi xlo xargs)))∧Below wr.heap.size wr w':=hcall _ hre
   clear hcell hr hre hcall xs
   generalize cj (.mk xop xlit xhead xname xhi xlo xargs)=z at hX hnx hst
   cases z with
   |false=>
    have hr:=aa (hst rfl)
    clear hnx hst
    go_wp2_with (go_at_call 172;refine hX.mono ?_;rintro e w1 ⟨rfl,hb1⟩)
    go_ret
    exact ⟨ah hr.out.symm,hbr.out.trans (hb1.mono hzr)⟩
   |true=>
    have hr:=aa (hnx rfl)
    clear hnx hst
    go_wp2_with (go_at_call 172;refine hX.mono ?_;rintro e w1 ⟨rfl,hb1⟩)
    go_roundw
    case rel=>exact ⟨k+1,by omega,by go_num,hr,aa (hbr.out.trans (hb1.mono hzr))⟩
    case measure=>simp [intOf];omega
  ·go_wp2
   go_ret
   exact ⟨ah (cJ hq.out hlt).symm,hbr.out⟩
theorem mZ (A:Option Addr) (cap:Nat) (w:World):Calls prog 227 #[.slice A 0 cap,.slice none 0 0] w fun r w'=>r=.returned (.bool true)∧w=w':=by
 go_enter func227,ntmps227
 go_wp2
 go_loopw [5] (fun i wr=>i=.int .i64 0∧wr=w) (fun i _=>0)
 case atStart=>exact ⟨rfl,rfl⟩
 case round=>
  obtain ⟨rfl,rfl⟩:=hrel
  go_wp2
  go_ret
  exact ⟨rfl,rfl⟩
theorem tu (lit:Lt) (head name:ByteArray) (hi lo:Int) (A:Option Addr) (cap:Nat) (w:World):
  Calls prog 210 #[.agg (aO 0 lit head name hi lo A 0 cap),.agg #[.int .u8 0,.int .i64 0,.int .u64 0,.int .u64 0,.string (ByteArray.mk #[]),.string (ByteArray.mk #[]),.int .i64 0,.int .i64 0,.slice none 0 0]] w fun r w'=>r=.returned (.bool (decide (lit=fW)&&(decide (head=aB)&&(decide (name=aB)&&(decide (hi=0)&&decide (lo=0))))))∧Below w.heap.size w w':=by
 unfold aO
 obtain ⟨wa,hwa,hsa,hba,hca,-⟩:=al w (aO 0 lit head name hi lo A 0 cap) 45
 obtain ⟨wb,hwb,hsb,hbb,hcb,-⟩:=al wa #[.int .u8 0,.int .i64 0,.int .u64 0,.int .u64 0,.string (ByteArray.mk #[]),.string (ByteArray.mk #[]),.int .i64 0,.int .i64 0,.slice none 0 0] 45
 have y0:wb.cell? ⟨w.heap.size,0,none⟩=some (.int .u8 0):=(bx hbb w.heap.size 0 (by omega)).trans (hca 0)
 have y1:wb.cell? ⟨w.heap.size,1,none⟩=some (.int .i64 lit.1):=(bx hbb w.heap.size 1 (by omega)).trans (hca 1)
 have y2:wb.cell? ⟨w.heap.size,2,none⟩=some (.int .u64 lit.2.1):=(bx hbb w.heap.size 2 (by omega)).trans (hca 2)
 have y3:wb.cell? ⟨w.heap.size,3,none⟩=some (.int .u64 lit.2.2):=(bx hbb w.heap.size 3 (by omega)).trans (hca 3)
 have y4:wb.cell? ⟨w.heap.size,4,none⟩=some (.string head):=(bx hbb w.heap.size 4 (by omega)).trans (hca 4)
 have y5:wb.cell? ⟨w.heap.size,5,none⟩=some (.string name):=(bx hbb w.heap.size 5 (by omega)).trans (hca 5)
 have y6:wb.cell? ⟨w.heap.size,6,none⟩=some (.int .i64 hi):=(bx hbb w.heap.size 6 (by omega)).trans (hca 6)
 have y7:wb.cell? ⟨w.heap.size,7,none⟩=some (.int .i64 lo):=(bx hbb w.heap.size 7 (by omega)).trans (hca 7)
 have y8:wb.cell? ⟨w.heap.size,8,none⟩=some (.slice A 0 cap):=(bx hbb w.heap.size 8 (by omega)).trans (hca 8)
 have z0:wb.cell? ⟨w.heap.size+1,0,none⟩=some (.int .u8 0):=by rw [←hsa];exact hcb 0
 have z1:wb.cell? ⟨w.heap.size+1,1,none⟩=some (.int .i64 0):=by rw [←hsa];exact hcb 1
 have z2:wb.cell? ⟨w.heap.size+1,2,none⟩=some (.int .u64 0):=by rw [←hsa];exact hcb 2
 have z3:wb.cell? ⟨w.heap.size+1,3,none⟩=some (.int .u64 0):=by rw [←hsa];exact hcb 3
 have z4:wb.cell? ⟨w.heap.size+1,4,none⟩=some (.string (ByteArray.mk #[])):=by rw [←hsa];exact hcb 4
 have z5:wb.cell? ⟨w.heap.size+1,5,none⟩=some (.string (ByteArray.mk #[])):=by rw [←hsa];exact hcb 5
 have z6:wb.cell? ⟨w.heap.size+1,6,none⟩=some (.int .i64 0):=by rw [←hsa];exact hcb 6
 have z7:wb.cell? ⟨w.heap.size+1,7,none⟩=some (.int .i64 0):=by rw [←hsa];exact hcb 7
 have z8:wb.cell? ⟨w.heap.size+1,8,none⟩=some (.slice none 0 0):=by rw [←hsa];exact hcb 8
 have hw:=aa (hba.trans (hbb.mono (by omega)))
 clear hca hcb hba hbb
 by_cases e3:lit=fW
 focus
  rw [decide_eq_true e3]
  obtain ⟨r1,r2,r3⟩:=(bR lit).1 e3
  replace r1:=eq_true r1
  replace r2:=eq_true r2
  replace r3:=eq_true r3
  clear e3
  by_cases e1:head=aB
  focus
   rw [decide_eq_true e1]
   have t1:head.toList.isEmpty=true:=by rw [ak.1 e1];rfl
   have t1':=ak.1 e1
   clear e1
   by_cases e2:name=aB
   focus
    rw [decide_eq_true e2]
    have t2:name.toList.isEmpty=true:=by rw [ak.1 e2];rfl
    have t2':=ak.1 e2
    clear e2
    by_cases e4:hi=0
    focus
     rw [decide_eq_true e4]
     by_cases e5:lo=0
     focus
      rw [decide_eq_true e5]
      subst e4 e5
     rotate_right
     focus
      rw [decide_eq_false e5]
      subst e4
    rotate_right
    rw [decide_eq_false e4]
   rotate_right
   rw [decide_eq_false e2]
   have t2:name.toList.isEmpty=false:=by rw [BD];exact fun h=>e2 (ak.2 (Bx.1 h))
   clear e2
  rotate_right
  rw [decide_eq_false e1]
  have t1:head.toList.isEmpty=false:=by rw [BD];exact fun h=>e1 (ak.2 (Bx.1 h))
  clear e1
 rotate_right
 focus
  rw [decide_eq_false e3]
  have hyy:=aa (fun h=>e3 ((bR lit).2 h))
  clear e3
  by_cases r1:lit.1=0
  focus
   by_cases r2:lit.2.1=0
   focus
    by_cases r3:lit.2.2=0
    focus exact absurd ⟨r1,r2,r3⟩ hyy.out
    rotate_right
    replace r1:=eq_true r1
    replace r2:=eq_true r2
   rotate_right
   replace r1:=eq_true r1
  rotate_right
  focus skip
 all_goals
  go_enter func210,ntmps210
  go_wp2_with (go_at_call 227;refine (mZ _ _ _).mono ?_;rintro e w1 ⟨rfl,rfl⟩)
  go_ret
  exact ⟨rfl,hw.out⟩
theorem pR (s:Se) (w:World) (hk:u8 s.kind) (hv:em s.v) (hm:em s.m):
  Calls prog 170 #[.agg #[.int .u8 s.kind,.int .i64 s.v.1,.int .u64 s.v.2.1,.int .u64 s.v.2.2,.int .i64 s.m.1,.int .u64 s.m.2.1,.int .u64 s.m.2.2]] w fun e w'=>e=.returned (.bool (fA s))∧Below w.heap.size w w':=by
 obtain ⟨kind,v,m⟩:=s
 show Calls _ _ #[.agg #[.int .u8 kind,.int .i64 v.1,.int .u64 v.2.1,.int .u64 v.2.2,.int .i64 m.1,.int .u64 m.2.1,.int .u64 m.2.2]] _ _
 replace hv:em v:=hv
 replace hm:em m:=hm
 obtain ⟨wa,hwa,hsa,hba,hca,-⟩:=al w #[.int .u8 kind,.int .i64 v.1,.int .u64 v.2.1,.int .u64 v.2.2,.int .i64 m.1,.int .u64 m.2.1,.int .u64 m.2.2] 97
 obtain ⟨x0,x1,x2,x3,x4,x5,x6⟩:=aF hca
 have hw:=aa (hba.alloc (show w.heap.size≤wa.heap.size by omega) (.cells #[.int .i64 0,.int .u64 0,.int .u64 0] 42))
 clear hca hba
 
 have zero_:∀ l:Lt,l=fW→(l.1=0)=True∧(l.2.1=0)=True∧(l.2.2=0)=True:=fun l h=>by rw [bR] at h;exact ⟨eq_true h.1,eq_true h.2.1,eq_true h.2.2⟩
 have zz:=aa zero_
 clear zero_
 by_cases k1:kind=1
 focus
  subst k1
  have hs:fA ⟨1,v,m⟩=(decide (v=fW)&&decide (m=fW)):=rfl
  by_cases hz:v=fW
  focus
   obtain ⟨p1,p2,p3⟩:=zz.out v hz
   by_cases hy:m=fW
   focus
    obtain ⟨r1,r2,r3⟩:=zz.out m hy
    have hvv:=aa (show fA ⟨1,v,m⟩=true from by rw [hs,decide_eq_true hz,decide_eq_true hy];rfl)
    clear hs hz hy
   rotate_right
   focus
    have hvv:=aa (show fA ⟨1,v,m⟩=false from by rw [hs,decide_eq_false hy];simp)
    have hyy:=aa (fun h=>hy ((bR m).2 h))
    clear hs hz hy
    by_cases r1:m.1=0
    focus
     by_cases r2:m.2.1=0
     focus
      by_cases r3:m.2.2=0
      focus exact absurd ⟨r1,r2,r3⟩ hyy.out
      rotate_right
      replace r1:=eq_true r1
      replace r2:=eq_true r2
     rotate_right
     replace r1:=eq_true r1
  rotate_right
  focus
   have hvv:=aa (show fA ⟨1,v,m⟩=false from by rw [hs,decide_eq_false hz];rfl)
   have hyy:=aa (fun h=>hz ((bR v).2 h))
   clear hs hz
   by_cases r1:v.1=0
   focus
    by_cases r2:v.2.1=0
    focus
     by_cases r3:v.2.2=0
     focus exact absurd ⟨r1,r2,r3⟩ hyy.out
     rotate_right
     replace r1:=eq_true r1
     replace r2:=eq_true r2
    rotate_right
    replace r1:=eq_true r1
  all_goals
   go_enter func170,ntmps170
   go_wp2
   go_ret
   exact ⟨ah hvv.out.symm,hw.out⟩
 rotate_right
 focus
  have hLa:=fun W=>eH v W hv
  by_cases k2:kind=2
  focus
   subst k2
   have hs:fA ⟨2,v,m⟩=(cr v&&decide (m=fW)):=rfl
   cases hb:cr v
   rw [hb] at hLa
   have hLv:=aa hLa
   have hvv:=aa (show fA ⟨2,v,m⟩=false from by rw [hs,hb];rfl)
   clear hs hb k1 hLa
   rotate_right
   focus
    rw [hb] at hLa
    have hLv:=aa hLa
    clear hLa k1
    by_cases hy:m=fW
    focus
     obtain ⟨r1,r2,r3⟩:=zz.out m hy
     have hvv:=aa (show fA ⟨2,v,m⟩=true from by rw [hs,hb,decide_eq_true hy];rfl)
     clear hs hb hy
    rotate_right
    focus
     have hvv:=aa (show fA ⟨2,v,m⟩=false from by rw [hs,decide_eq_false hy];simp)
     clear hb
     have hyy:=aa (fun h=>hy ((bR m).2 h))
     clear hs hy
     by_cases r1:m.1=0
     focus
      by_cases r2:m.2.1=0
      focus
       by_cases r3:m.2.2=0
       focus exact absurd ⟨r1,r2,r3⟩ hyy.out
       rotate_right
       replace r1:=eq_true r1
       replace r2:=eq_true r2
      rotate_right
      replace r1:=eq_true r1
  rotate_right
  focus
   by_cases k3:kind=3
   focus
    subst k3
    have hs:fA ⟨3,v,m⟩=(cr v&&cr m):=rfl
    have hMa:=fun W=>eH m W hm
    cases hb:cr v
    rw [hb] at hLa
    have hLv:=aa hLa
    have hvv:=aa (show fA ⟨3,v,m⟩=false from by rw [hs,hb];rfl)
    clear hs hb k1 k2 hLa hMa
    rotate_right
    focus
     rw [hb] at hLa
     have hLv:=aa hLa
     have hLm:=aa hMa
     have hvv:=aa (show fA ⟨3,v,m⟩=cr m from by rw [hs,hb];rfl)
     clear hs hb k1 k2 hLa hMa
     generalize cr m=z at hvv hLm
     go_enter func170,ntmps170
     go_wp2_with fail
     refine (hLv.out _).mono ?_
     rintro e w1 ⟨rfl,hb1⟩
     have hc1:=cM hb1
     go_wp2_with fail
     refine (hLm.out _).mono ?_
     rintro e w2 ⟨rfl,hb2⟩
     go_wp2
     go_ret
     exact ⟨ah hvv.out.symm,(hw.out.trans (hb1.mono (by simp;omega))).trans (hb2.mono (by have:=hb1.size;simp at this;omega))⟩
   rotate_right
   focus
    have hvv:=aa (show fA ⟨kind,v,m⟩=false from by unfold fA;rw [if_neg k1,if_neg k2,if_neg k3])
    clear hLa
    go_enter func170,ntmps170
    go_wp2
    go_ret
    exact ⟨ah hvv.out.symm,hw.out⟩
 all_goals
  go_enter func170,ntmps170
  go_wp2_with (go_at_call 173;refine (hLv.out _).mono ?_;rintro e w1 ⟨rfl,hb1⟩;have hc1:=cM hb1)
  go_ret
  exact ⟨ah hvv.out.symm,hw.out.trans (hb1.mono (by simp;omega))⟩
def m5 (B:Nat) (s:St):Prop:=∀ (cs:List Value) (w:World) (deep:Nat),deep≤8→B≤w.heap.size→dR w B cs s→
 Calls prog 171 #[.agg cs.toArray,.int .i64 (deep:Int)] w fun r w'=>r=.returned (.bool (aM s deep))∧Below w.heap.size w w'
theorem jM {B:Nat} (l:List St) (ih:∀ x∈l,m5 B x) (A:Option Addr) (cap:Nat) (w:World) (deep:Nat) (hd:deep≤9) (hB:B≤w.heap.size) (h:Sl 14 dR w B A l):
  Calls prog 103 #[.slice A l.length cap,.int .i64 (deep:Int)] w fun r w'=>r=.returned (.bool (aY l deep))∧Below w.heap.size w w':=by
 have hl:=h.len
 have hS:=aa h
 have hm:aY l deep=(decide (l.length=0) ||(decide (deep≤8)&&decide (l.length≤32)&&l.all fun s=>aM s deep)):=by
  unfold aY
  rw [gH]
  cases l<;>simp
 replace ih:=aa ih
 clear h
 by_cases h32:l.length≤32
 ·have h3z:(l.length:Int)≤32:=by omega
  by_cases hn:l.length=0
  ·have hv:=aa (hm.trans (by simp [hn]):aY l deep=true)
   have hnz:¬(0:Int)<(l.length:Int):=by omega
   clear hm hn
   go_enter func103,ntmps103
   go_wp2
   go_loopw [5] (fun i wr=>i=.int .i64 0∧wr=w) (fun i _=>0)
   case atStart=>exact ⟨rfl,rfl⟩
   case round=>
    obtain ⟨rfl,rfl⟩:=hrel
    go_wp2
    go_ret
    exact ⟨ah hv.out.symm,Bi _ _⟩
  ·have hnz:(0:Int)<(l.length:Int):=by omega
   by_cases hd8:deep≤8
   ·have hdz:(deep:Int)≤8:=by omega
    have hv:=aa (hm.trans (by simp [hn,hd8,h32]):aY l deep=l.all fun s=>aM s deep)
    clear hm hn
    go_enter func103,ntmps103
    go_wp2
    go_loopw [5] (fun i wr=>∃ k:Nat,k≤l.length∧i=.int .i64 k∧Hid ((l.take k).all (fun s=>aM s deep)=true)∧Hid (Below w.heap.size w wr)) (fun i _=>l.length-(intOf i).toNat)
    case atStart=>exact ⟨0,Bo _,rfl,aa (by simp),aa (Bi _ _)⟩
    case round=>
     obtain ⟨k,hk,rfl,hq,hbr⟩:=hrel
     have hc:=ab hbr.out
     have hzr:=hbr.out.size
     by_cases hlt:k<l.length
     ·obtain ⟨b,o,ecs,hA,hb,hel,hcell,hr⟩:=hS.out.2 k _ (Bk hlt)
      subst hA
      have hltz:(k:Int)<(l.length:Int):=by omega
      have hbw:b<w.heap.size:=by omega
      obtain ⟨a0,a1,a2,a3,a4,a5,a6,a7,a8,a9,a10,a11,a12,a13,rfl⟩:=zR hel
      obtain ⟨x0,x1,x2,x3,x4,x5,x6,x7,x8,x9,x10,x11,x12,x13⟩:=su hcell
      have hX:Calls prog 171 #[.agg #[a0,a1,a2,a3,a4,a5,a6,a7,a8,a9,a10,a11,a12,a13],.int .i64 (deep:Int)] wr fun r w'=>r=.returned (.bool (aM l[k] deep))∧Below wr.heap.size wr w':=ih.out _ (Bv hlt) [a0,a1,a2,a3,a4,a5,a6,a7,a8,a9,a10,a11,a12,a13] wr deep hd8 (Bj hB hzr) (be.keep hr fun q hq=>hbr.out.cell (Bg hq hB))
      have hnx:=fun h=>ci (p:=fun s=>aM s deep) hlt hq.out h
      have hst:=fun h=>bT (p:=fun s=>aM s deep) hlt h
      clear hcell hr
      generalize aM l[k] deep=z at hX hnx hst
      cases z with
      |false=>
       have hres:=aa (hst rfl)
       clear hnx hst
       go_wp2_with (go_at_call 171;refine hX.mono ?_;rintro e w2 ⟨rfl,hb2⟩)
       go_ret
       exact ⟨ah (hv.out.trans hres.out).symm,hbr.out.trans (hb2.mono hzr)⟩
      |true=>
       have hres:=aa (hnx rfl)
       clear hnx hst
       go_wp2_with (go_at_call 171;refine hX.mono ?_;rintro e w2 ⟨rfl,hb2⟩)
       go_roundw
       case rel=>exact ⟨k+1,by omega,by go_num,hres,aa (hbr.out.trans (hb2.mono hzr))⟩
       case measure=>simp [intOf];omega
     ·have hres:=aa (cJ hq.out hlt)
      go_wp2
      go_ret
      exact ⟨ah (hv.out.trans hres.out).symm,hbr.out⟩
   ·have hdz:¬(deep:Int)≤8:=by omega
    have hdz':(8:Int)<(deep:Int):=by omega
    have hv:=aa (hm.trans (by simp [hn,hd8]):aY l deep=false)
    clear hm hn
    go_enter func103,ntmps103
    go_wp2
    go_ret
    exact ⟨ah hv.out.symm,Bi _ _⟩
 ·have h3z:¬(l.length:Int)≤32:=by omega
  have h3z':(32:Int)<(l.length:Int):=by omega
  have hv:=aa (hm.trans (by simp [h32];intro h;rw [h] at h32;simp at h32):aY l deep=false)
  clear hm
  go_enter func103,ntmps103
  go_wp2
  go_ret
  exact ⟨ah hv.out.symm,Bi _ _⟩
end Go.Proofs.YtbbdhknagofghaaGreat

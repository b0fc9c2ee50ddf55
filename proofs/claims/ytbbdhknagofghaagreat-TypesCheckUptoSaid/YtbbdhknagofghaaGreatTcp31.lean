import Derived.Test.YtbbdhknagofghaaGreatTcp30
set_option linter.all false
set_option maxHeartbeats 4000000
set_option maxRecDepth 100000
open Go.Proofs.Tryz
namespace Go.Proofs.YtbbdhknagofghaaGreat
open _root_.Go.RowKit.Below renaming refl→Bi
open _root_.Nat renaming le_trans→Bj
open _root_.Bool renaming true_and→Bt, false_and→Bu, eq_false_iff→BD, and_assoc→BJ
open _root_.List renaming isEmpty_iff→Bx
open Go.RowKit
theorem vN (kind:Int) (head name:ByteArray) (e:Ex) (thn els:List St) (deep:Nat):aM (.mk kind head name e thn els) deep=
  if kind=1 then (thn.isEmpty&&els.isEmpty)&&(av name&&((decide (head=aB) ||av head)&&cj e))
  else if kind=2 then decide (name=aB)&&(decide (head=aB)&&(cj e&&(aY thn (deep+1)&&aY els (deep+1))))
  else if kind=3 then (thn.isEmpty&&els.isEmpty)&&(dU e&&(decide (head=aB)&&av name))
  else if kind=4 then (thn.isEmpty&&els.isEmpty)&&(dU e&&(decide (head=aB)&&decide (name=aB)))
  else if kind=5 then (thn.isEmpty&&els.isEmpty)&&(decide (head=aB)&&(decide (name=aB)&&cj e))
  else if kind=6∨kind=7 then (thn.isEmpty&&els.isEmpty)&&(dU e&&(decide (name=aB)&&av head))
  else false:=by
 simp only [aM,aY]
 generalize thn.isEmpty=a
 generalize els.isEmpty=b
 generalize av name=c
 generalize av head=d
 generalize cj e=f
 generalize dU e=g
 generalize decide (head=aB)=h
 generalize decide (name=aB)=i
 repeat' split
 all_goals first|rfl|(cases a<;>cases b<;>cases c<;>cases d<;>cases f<;>cases g<;>cases h<;>cases i<;>rfl)|(cases f<;>cases h<;>cases i<;>simp)
theorem vO {B:Nat} (kind:Int) (head name:ByteArray) (e:Ex) (thn els:List St) (ih1:∀ x∈thn,m5 B x) (ih2:∀ x∈els,m5 B x):m5 B (.mk kind head name e thn els):=by
 intro cs w deep hd hB hr
 obtain ⟨es,A1,c1,A2,c2,rfl,h0,h1,h2',he,hT,hE⟩:=RS.inv hr
 have hsm:=RS.small hr
 have l1:=hT.len
 have l2:=hE.len
 have hX0:=fun (W:World) (hb:Below w.heap.size w W)=>fx e es W (Bj hB hb.size) (ai.keep he fun q hq=>(hb.mono hB).cell hq)
 obtain ⟨op,lit,eh,en,hi,lo,args⟩:=e
 obtain ⟨A,cap,rfl,hop,-,-,-,-,-,hs⟩:=RE.inv he
 have hla:=hs.len
 obtain ⟨wa,hwa,hsa,hba,hca,-⟩:=al w (nA kind head name op lit eh en hi lo A args.length cap A1 thn.length c1 A2 els.length c2) 47
 obtain ⟨y0,y1,y2,y3,y4,y5,y6,y7,y8,y9,y10,y11,y12,y13⟩:=dm hca
 have hb0:Below wa.heap.size wa wa:=Bi _ _
 have hBk:=aa (show ∀ W,Below wa.heap.size wa W→Below w.heap.size w W from fun W hb=>hba.trans (hb.mono (by omega)))
 have hBW:∀ W,Below wa.heap.size wa W→B≤W.heap.size:=fun W hb=>by have:=hb.size;omega
 have q1:=aa (fun (W:World) (hb:Below wa.heap.size wa W)=>(bG head W).mono (fun e w' h=>(⟨h.1,hb.trans (h.2.mono hb.size)⟩:e=_∧Below wa.heap.size wa w')))
 have q2:=aa (fun (W:World) (hb:Below wa.heap.size wa W)=>(bG name W).mono (fun e w' h=>(⟨h.1,hb.trans (h.2.mono hb.size)⟩:e=_∧Below wa.heap.size wa w')))
 have q3:Hid (∀ (W:World),Below wa.heap.size wa W→Calls prog 172 #[.agg (aO op lit eh en hi lo A args.length cap)] W fun r w'=>r=.returned (.bool (cj (.mk op lit eh en hi lo args)))∧Below wa.heap.size wa w'):=aa (fun W hb=>(hX0 W (hBk.out W hb)).mono fun e w' h=>⟨h.1,hb.trans (h.2.mono hb.size)⟩)
 have hdd:((deep+1:Nat):Int)=(deep:Int)+1:=by omega
 have q4:Hid (∀ (W:World),Below wa.heap.size wa W→Calls prog 103 #[.slice A1 thn.length c1,.int .i64 ((deep:Int)+1)] W fun r w'=>r=.returned (.bool (aY thn (deep+1)))∧Below wa.heap.size wa w'):=aa (fun W hb=>by
  rw [←hdd]
  exact (jM thn ih1 A1 c1 W (deep+1) (by omega) (hBW W hb) (hT.below be ((hBk.out W hb).mono hB))).mono fun e w' h=>⟨h.1,hb.trans (h.2.mono hb.size)⟩)
 have q5:Hid (∀ (W:World),Below wa.heap.size wa W→Calls prog 103 #[.slice A2 els.length c2,.int .i64 ((deep:Int)+1)] W fun r w'=>r=.returned (.bool (aY els (deep+1)))∧Below wa.heap.size wa w'):=aa (fun W hb=>by
  rw [←hdd]
  exact (jM els ih2 A2 c2 W (deep+1) (by omega) (hBW W hb) (hE.below be ((hBk.out W hb).mono hB))).mono fun e w' h=>⟨h.1,hb.trans (h.2.mono hb.size)⟩)
 have hdz:(deep:Int)≤8:=by omega
 have hv0:=vN kind head name (.mk op lit eh en hi lo args) thn els deep
 have hno:dU (.mk op lit eh en hi lo args)=(decide (op=0)&&(decide (args.length=0)&&(decide (lit=fW)&&(decide (eh=aB)&&(decide (en=aB)&&(decide (hi=0)&&decide (lo=0))))))):=by
  have:args.isEmpty=decide (args.length=0):=by cases args<;>simp
  simp only [dU,this]
  cases decide (op=0)<;>cases decide (args.length=0)<;>simp [BJ]
 have hbl:(thn.isEmpty&&els.isEmpty)=(decide (thn.length=0)&&decide (els.length=0)):=by
  cases thn<;>cases els<;>simp
 show Calls _ _ #[.agg #[.int .u8 kind,.string head,.string name,.int .u8 op,.int .i64 lit.1,.int .u64 lit.2.1,.int .u64 lit.2.2,.string eh,.string en,.int .i64 hi,.int .i64 lo,.slice A args.length cap,.slice A1 thn.length c1,.slice A2 els.length c2],.int .i64 (deep:Int)] _ _
 clear hX0 hr he hT hE hs hca hba hBW ih1 ih2 hdd hd hsm h0 h1 h2'
 generalize thn.length=n1 at*
 generalize els.length=n2 at*
 generalize args.length=nn at*
 go_enter func171,ntmps171
 go_upto_region 1 with (fail)
 go_cut [5] from 7 to 24 (fun s5 wx=>s5=.bool (!dU (.mk op lit eh en hi lo args))∧Hid (Below wa.heap.size wa wx))
 case first=>
  clear q1 q2 q3 q4 q5
  by_cases o1:op=0
  ·rw [decide_eq_true o1,Bt] at hno
   by_cases o2:nn=0
   ·rw [decide_eq_true o2,Bt] at hno
    have hn:=aa hno
    have hS:=tu lit eh en hi lo A cap wa
    generalize (decide (lit=fW)&&(decide (eh=aB)&&(decide (en=aB)&&(decide (hi=0)&&decide (lo=0)))))=z at hS hn
    clear hno hv0 hbl
    subst o1 o2
    go_wp2_with (go_at_call 210;refine hS.mono ?_;rintro e w1 ⟨rfl,hb1⟩)
    go_meet
    exact ⟨by rw [hn.out],aa hb1⟩
   ·have o2':(0:Int)<(nn:Int):=by omega
    rw [decide_eq_false o2,Bu] at hno
    have hn:=aa hno
    clear hno hv0 hbl o2
    subst o1
    go_wp2
    go_meet
    exact ⟨by rw [hn.out];rfl,aa hb0⟩
  ·rw [decide_eq_false o1,Bu] at hno
   have hn:=aa hno
   clear hno hv0 hbl
   go_wp2
   go_meet
   exact ⟨by rw [hn.out];rfl,aa hb0⟩
 case rest=>
  obtain ⟨rfl,hb1⟩:=hcut
  go_upto_region 2 with (fail)
  go_cut [6] from 25 to 34 (fun s6 wx=>s6=.bool (!(thn.isEmpty&&els.isEmpty))∧wx=wc)
  case first=>
   have kc:=ab hb1.out
   clear q1 q2 q3 q4 q5 hno hv0
   by_cases o1:n1=0
   focus
    rw [decide_eq_true o1,Bt] at hbl
    by_cases o2:n2=0
    focus
     rw [decide_eq_true o2] at hbl
     have hn:=aa hbl
     clear hbl
     subst o1 o2
    rotate_right
    focus
     have o2':(0:Int)<(n2:Int):=by omega
     rw [decide_eq_false o2] at hbl
     have hn:=aa hbl
     clear o2 hbl
     subst o1
   rotate_right
   have o1':(0:Int)<(n1:Int):=by omega
   rw [decide_eq_false o1,Bu] at hbl
   have hn:=aa hbl
   clear o1 hbl
   all_goals
    go_wp2
    go_meet
    exact ⟨by rw [hn.out];first|rfl|(simp;omega),rfl⟩
  case rest=>
   obtain ⟨rfl,rfl⟩:=hcut
   have hb2:=hb1.out
   have kc:=ab hb2
   clear hno hbl hb0 hb1
   rw [←Bool.not_not (dU (.mk op lit eh en hi lo args))] at hv0
   rw [←Bool.not_not (thn.isEmpty&&els.isEmpty)] at hv0
   generalize (!dU (.mk op lit eh en hi lo args))=ne at*
   generalize (!(thn.isEmpty&&els.isEmpty))=bl at*
   generalize av head=zh at q1 hv0
   generalize av name=zn at q2 hv0
   generalize cj (.mk op lit eh en hi lo args)=ze at q3 hv0
   generalize aY thn (deep+1)=z4 at q4 hv0
   generalize aY els (deep+1)=z5 at q5 hv0
   replace hv0:=aa hv0
   by_cases k1:kind=1
   focus
    subst k1
    cases bl
    focus
     cases zn
     have hv:=aa (hv0.out.trans (by simp []):aM (.mk 1 head name (.mk op lit eh en hi lo args) thn els) deep=false)
     rotate_right
     focus
      by_cases e2:head=aB
      focus
       have t2:=ak.1 e2
       cases ze
       have hv:=aa (hv0.out.trans (by simp []):aM (.mk 1 head name (.mk op lit eh en hi lo args) thn els) deep=false)
       rotate_right
       have hv:=aa (hv0.out.trans (by simp [e2]):aM (.mk 1 head name (.mk op lit eh en hi lo args) thn els) deep=true)
      rotate_right
      focus
       have t2:head.toList.isEmpty=false:=by rw [BD];exact fun h=>e2 (ak.2 (Bx.1 h))
       cases zh
       have hv:=aa (hv0.out.trans (by simp [e2]):aM (.mk 1 head name (.mk op lit eh en hi lo args) thn els) deep=false)
       rotate_right
       focus
        cases ze
        have hv:=aa (hv0.out.trans (by simp []):aM (.mk 1 head name (.mk op lit eh en hi lo args) thn els) deep=false)
        rotate_right
        have hv:=aa (hv0.out.trans (by simp [e2]):aM (.mk 1 head name (.mk op lit eh en hi lo args) thn els) deep=true)
    rotate_right
    have hv:=aa (hv0.out.trans (by simp []):aM (.mk 1 head name (.mk op lit eh en hi lo args) thn els) deep=false)
   rotate_right
   focus
    skip
    by_cases k2:kind=2
    focus
     subst k2
     by_cases e0:name=aB
     focus
      have t0:=ak.1 e0
      by_cases e1:head=aB
      focus
       have t1:=ak.1 e1
       cases ze
       have hv:=aa (hv0.out.trans (by simp []):aM (.mk 2 head name (.mk op lit eh en hi lo args) thn els) deep=false)
       rotate_right
       focus
        cases z4
        have hv:=aa (hv0.out.trans (by simp []):aM (.mk 2 head name (.mk op lit eh en hi lo args) thn els) deep=false)
        rotate_right
        focus
         cases z5
         have hv:=aa (hv0.out.trans (by simp []):aM (.mk 2 head name (.mk op lit eh en hi lo args) thn els) deep=false)
         rotate_right
         have hv:=aa (hv0.out.trans (by simp [e0,e1]):aM (.mk 2 head name (.mk op lit eh en hi lo args) thn els) deep=true)
      rotate_right
      have t1:head.toList.isEmpty=false:=by rw [BD];exact fun h=>e1 (ak.2 (Bx.1 h))
      have hv:=aa (hv0.out.trans (by simp [e1]):aM (.mk 2 head name (.mk op lit eh en hi lo args) thn els) deep=false)
     rotate_right
     have t0:name.toList.isEmpty=false:=by rw [BD];exact fun h=>e0 (ak.2 (Bx.1 h))
     have hv:=aa (hv0.out.trans (by simp [e0]):aM (.mk 2 head name (.mk op lit eh en hi lo args) thn els) deep=false)
    rotate_right
    focus
     skip
     by_cases k3:kind=3
     focus
      subst k3
      cases bl
      focus
       cases ne
       focus
        by_cases e2:head=aB
        focus
         have t2:=ak.1 e2
         cases zn
         have hv:=aa (hv0.out.trans (by simp []):aM (.mk 3 head name (.mk op lit eh en hi lo args) thn els) deep=false)
         rotate_right
         have hv:=aa (hv0.out.trans (by simp [e2]):aM (.mk 3 head name (.mk op lit eh en hi lo args) thn els) deep=true)
        rotate_right
        have t2:head.toList.isEmpty=false:=by rw [BD];exact fun h=>e2 (ak.2 (Bx.1 h))
        have hv:=aa (hv0.out.trans (by simp [e2]):aM (.mk 3 head name (.mk op lit eh en hi lo args) thn els) deep=false)
       rotate_right
       have hv:=aa (hv0.out.trans (by simp []):aM (.mk 3 head name (.mk op lit eh en hi lo args) thn els) deep=false)
      rotate_right
      have hv:=aa (hv0.out.trans (by simp []):aM (.mk 3 head name (.mk op lit eh en hi lo args) thn els) deep=false)
     rotate_right
     focus
      skip
      by_cases k4:kind=4
      focus
       subst k4
       cases bl
       focus
        cases ne
        focus
         by_cases e2:head=aB
         focus
          have t2:=ak.1 e2
          by_cases e3:name=aB
          have t3:=ak.1 e3
          have hv:=aa (hv0.out.trans (by simp [e2,e3]):aM (.mk 4 head name (.mk op lit eh en hi lo args) thn els) deep=true)
          rotate_right
          have t3:name.toList.isEmpty=false:=by rw [BD];exact fun h=>e3 (ak.2 (Bx.1 h))
          have hv:=aa (hv0.out.trans (by simp [e3]):aM (.mk 4 head name (.mk op lit eh en hi lo args) thn els) deep=false)
         rotate_right
         have t2:head.toList.isEmpty=false:=by rw [BD];exact fun h=>e2 (ak.2 (Bx.1 h))
         have hv:=aa (hv0.out.trans (by simp [e2]):aM (.mk 4 head name (.mk op lit eh en hi lo args) thn els) deep=false)
        rotate_right
        have hv:=aa (hv0.out.trans (by simp []):aM (.mk 4 head name (.mk op lit eh en hi lo args) thn els) deep=false)
       rotate_right
       have hv:=aa (hv0.out.trans (by simp []):aM (.mk 4 head name (.mk op lit eh en hi lo args) thn els) deep=false)
      rotate_right
      focus
       skip
       by_cases k5:kind=5
       focus
        subst k5
        cases bl
        focus
         by_cases e1:head=aB
         focus
          have t1:=ak.1 e1
          by_cases e2:name=aB
          focus
           have t2:=ak.1 e2
           cases ze
           have hv:=aa (hv0.out.trans (by simp []):aM (.mk 5 head name (.mk op lit eh en hi lo args) thn els) deep=false)
           rotate_right
           have hv:=aa (hv0.out.trans (by simp [e1,e2]):aM (.mk 5 head name (.mk op lit eh en hi lo args) thn els) deep=true)
          rotate_right
          have t2:name.toList.isEmpty=false:=by rw [BD];exact fun h=>e2 (ak.2 (Bx.1 h))
          have hv:=aa (hv0.out.trans (by simp [e2]):aM (.mk 5 head name (.mk op lit eh en hi lo args) thn els) deep=false)
         rotate_right
         have t1:head.toList.isEmpty=false:=by rw [BD];exact fun h=>e1 (ak.2 (Bx.1 h))
         have hv:=aa (hv0.out.trans (by simp [e1]):aM (.mk 5 head name (.mk op lit eh en hi lo args) thn els) deep=false)
        rotate_right
        have hv:=aa (hv0.out.trans (by simp []):aM (.mk 5 head name (.mk op lit eh en hi lo args) thn els) deep=false)
       rotate_right
       focus
        skip
        by_cases k6:kind=6
        focus
         subst k6
         cases bl
         focus
          cases ne
          focus
           by_cases e2:name=aB
           focus
            have t2:=ak.1 e2
            cases zh
            have hv:=aa (hv0.out.trans (by simp []):aM (.mk 6 head name (.mk op lit eh en hi lo args) thn els) deep=false)
            rotate_right
            have hv:=aa (hv0.out.trans (by simp [e2]):aM (.mk 6 head name (.mk op lit eh en hi lo args) thn els) deep=true)
           rotate_right
           have t2:name.toList.isEmpty=false:=by rw [BD];exact fun h=>e2 (ak.2 (Bx.1 h))
           have hv:=aa (hv0.out.trans (by simp [e2]):aM (.mk 6 head name (.mk op lit eh en hi lo args) thn els) deep=false)
          rotate_right
          have hv:=aa (hv0.out.trans (by simp []):aM (.mk 6 head name (.mk op lit eh en hi lo args) thn els) deep=false)
         rotate_right
         have hv:=aa (hv0.out.trans (by simp []):aM (.mk 6 head name (.mk op lit eh en hi lo args) thn els) deep=false)
        rotate_right
        focus
         skip
         by_cases k7:kind=7
         focus
          subst k7
          cases bl
          focus
           cases ne
           focus
            by_cases e2:name=aB
            focus
             have t2:=ak.1 e2
             cases zh
             have hv:=aa (hv0.out.trans (by simp []):aM (.mk 7 head name (.mk op lit eh en hi lo args) thn els) deep=false)
             rotate_right
             have hv:=aa (hv0.out.trans (by simp [e2]):aM (.mk 7 head name (.mk op lit eh en hi lo args) thn els) deep=true)
            rotate_right
            have t2:name.toList.isEmpty=false:=by rw [BD];exact fun h=>e2 (ak.2 (Bx.1 h))
            have hv:=aa (hv0.out.trans (by simp [e2]):aM (.mk 7 head name (.mk op lit eh en hi lo args) thn els) deep=false)
           rotate_right
           have hv:=aa (hv0.out.trans (by simp []):aM (.mk 7 head name (.mk op lit eh en hi lo args) thn els) deep=false)
          rotate_right
          have hv:=aa (hv0.out.trans (by simp []):aM (.mk 7 head name (.mk op lit eh en hi lo args) thn els) deep=false)
         rotate_right
         focus
          skip
          have hv:=aa (hv0.out.trans (by simp [k1,k2,k3,k4,k5,k6,k7]):aM (.mk kind head name (.mk op lit eh en hi lo args) thn els) deep=false)
          go_wp2
          go_ret
          exact ⟨ah hv.out.symm,hBk.out _ hb2⟩
   all_goals
    try clear e0
    try clear e1
    try clear e2
    try clear e3
    try clear e4
    try clear e5
    try clear e6
    try clear e7
    try clear e8
    go_wp2_with (first|(go_at_call 100;first|(with_reducible refine (q1.out _ ‹_›).mono ?_;rintro e w1 ⟨rfl,hb1⟩;have kb1:=ab hb1)|(with_reducible refine (q2.out _ ‹_›).mono ?_;rintro e w2 ⟨rfl,hb2⟩;have kb2:=ab hb2))|(go_at_call 172;refine (q3.out _ ‹_›).mono ?_;rintro e w3 ⟨rfl,hb3⟩;have kb3:=ab hb3)|(go_at_call 103;first|(with_reducible refine (q4.out _ ‹_›).mono ?_;rintro e w4 ⟨rfl,hb4⟩;have kb4:=ab hb4)|(with_reducible refine (q5.out _ ‹_›).mono ?_;rintro e w5 ⟨rfl,hb5⟩)))
    go_ret
    exact ⟨ah hv.out.symm,hBk.out _ ‹_›⟩
theorem m6 {B:Nat} (s:St):m5 B s:=by
 induction s using St.ind with
 |h kind head name e thn els ih1 ih2=>exact vO kind head name e thn els ih1 ih2
end Go.Proofs.YtbbdhknagofghaaGreat

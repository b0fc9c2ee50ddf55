import Derived.Test.YtbbdhknagofghaaGreatTcp14
set_option linter.all false
set_option maxHeartbeats 1000000
set_option maxRecDepth 200000
open Go.Proofs.Tryz
namespace Go.Proofs.YtbbdhknagofghaaGreat
open _root_.Nat renaming lt_of_lt_of_le→Bg, le_trans→Bj
open _root_.Go.RowKit.Below renaming refl→Bi
open _root_.List renaming cons_append→BC, nil_append→BH
open _root_.Bool renaming and_assoc→BJ
open Go.RowKit
theorem ir {a b:ByteArray}:(a=aB∧b=aB)↔(a++b).toList= []:=by
 rw [←ak]
 constructor
 ·rintro ⟨rfl,rfl⟩;rfl
 ·intro h
  have:(a++b).size=0:=by rw [h];rfl
  rw [ByteArray.size_append] at this
  refine ⟨ByteArray.ext (Array.eq_empty_of_size_eq_zero ?_),ByteArray.ext (Array.eq_empty_of_size_eq_zero ?_)⟩
  ·show a.size=0;omega
  ·show b.size=0;omega
theorem vi {m:Int} {B:Nat} (kind:Int) (hk:kind=4) (head name:ByteArray) (e:Ex) (thn els:List St) (cs:List Value) (w:World) (deep:Nat) (hr:dR w B cs (.mk kind head name e thn els)) (hel:cs.length=14)
  (hB:B≤w.heap.size) (h00:0<B) (hz:w.cell? ⟨0,0,none⟩=some (.int .i64 m)) (hb:thn.length+els.length=0):
  Calls prog 148 #[.agg cs.toArray,.int .i64 (deep:Int)] w fun r w'=>r=.returned (.bool (aM (.mk kind head name e thn els) deep))∧Below w.heap.size w w':=by
 have hv:aM (.mk kind head name e thn els) deep=(decide (head=aB∧name=aB)&&dU e):=by
  simp [aM,vh hb,hk,BJ]
 rw [hv]
 clear hv
 obtain ⟨es,A1,c1,A2,c2,rfl,h0,h1,h2',he,hT,hE⟩:=RS.inv hr
 have hsm:=RS.small hr
 have l1:=hT.len
 have l2:=hE.len
 have hX0:=fun (W:World) (hb:Below w.heap.size w W)=>gd e es W (ai.keep he fun q hq=>(hb.mono hB).cell hq)
 obtain ⟨op,lit,eh,en,hi,lo,args⟩:=e
 obtain ⟨A,cap,rfl,-,-,-,-,-,-,hs⟩:=RE.inv he
 have hla:=hs.len
 obtain ⟨wa,hwa,hsa,hba,hca,-⟩:=al w (nA kind head name op lit eh en hi lo A args.length cap A1 thn.length c1 A2 els.length c2) 47
 obtain ⟨y0,y1,y2,y3,y4,y5,y6,y7,y8,y9,y10,y11,y12,y13⟩:=dm hca
 have hza:wa.cell? ⟨0,0,none⟩=some (.int .i64 m):=(bx hba 0 0 (by omega)).trans hz
 have hNh:=aV head m wa (Bj h1 (by decide)) hza
 have hNn:=aV name m wa (Bj h2' (by decide)) hza
 clear hca
 have hX1:=hX0 wa hba
 clear hX0 hr he hT hE hs hel
 replace hba:=aa hba
 have hle:w.heap.size≤wa.heap.size:=by omega
 have hbw:(thn.length:Int)+(els.length:Int)≤9223372036854775807:=by unfold sm at hsm;omega
 show Calls _ _ #[.agg #[.int .u8 kind,.string head,.string name,.int .u8 op,.int .i64 lit.1,.int .u64 lit.2.1,.int .u64 lit.2.2,.string eh,.string en,.int .i64 hi,.int .i64 lo,.slice A args.length cap,.slice A1 thn.length c1,.slice A2 els.length c2],.int .i64 (deep:Int)] _ _
 have hbz:¬((thn.length:Int)+(els.length:Int)>0):=by omega
 have hcat:head.size+name.size≤9223372036854775807:=by unfold sm at h1 h2';omega
 subst hk
 have hX:Hid (Calls prog 202 #[.agg (aO op lit eh en hi lo A args.length cap)] wa fun r w'=>r=.returned (.bool (dU (.mk op lit eh en hi lo args)))∧Below wa.heap.size wa w'):=aa hX1
 clear hX1
 generalize dU (.mk op lit eh en hi lo args)=z at hX ⊢
 clear hNh hNn
 by_cases e1:head=aB∧name=aB
 ·rw [decide_eq_true e1]
  have q1:=ir.1 e1
  clear e1
  go_enter func148,ntmps148
  go_wp2_with (go_at_call 202;refine hX.out.mono ?_;rintro e w1 ⟨rfl,hb1⟩)
  go_ret
  exact ⟨rfl,hba.out.trans (hb1.mono hle)⟩
 ·rw [decide_eq_false e1]
  have q1:=fun h=>e1 (ir.2 h)
  clear e1
  go_enter func148,ntmps148
  go_wp2
  go_ret
  exact ⟨rfl,hba.out⟩
theorem fo {m:Int} {w W:World} (h0:0<w.heap.size) (hz:w.cell? ⟨0,0,none⟩=some (.int .i64 m)) (hb:Below w.heap.size w W):W.cell? ⟨0,0,none⟩=some (.int .i64 m):=(hb.cell (p:=⟨0,0,none⟩) h0).trans hz
theorem xu {m:Int} {B:Nat} (kind:Int) (hk:kind=5) (head name:ByteArray) (e:Ex) (thn els:List St) (cs:List Value) (w:World) (deep:Nat) (hr:dR w B cs (.mk kind head name e thn els)) (hel:cs.length=14)
  (hB:B≤w.heap.size) (h00:0<B) (hz:w.cell? ⟨0,0,none⟩=some (.int .i64 m)) (hb:thn.length+els.length=0):
  Calls prog 148 #[.agg cs.toArray,.int .i64 (deep:Int)] w fun r w'=>r=.returned (.bool (aM (.mk kind head name e thn els) deep))∧Below w.heap.size w w':=by
 have hv:aM (.mk kind head name e thn els) deep=(decide (head=aB∧name=aB)&&cj e):=by
  simp [aM,vh hb,hk,BJ]
 rw [hv]
 clear hv
 obtain ⟨es,A1,c1,A2,c2,rfl,h0,h1,h2',he,hT,hE⟩:=RS.inv hr
 have hsm:=RS.small hr
 have l1:=hT.len
 have l2:=hE.len
 have hX0:=fun (W:World) (hb:Below w.heap.size w W)=>dD e es W (Bj hB hb.size) h00 (fo (Bg h00 hB) hz hb) (ai.keep he fun q hq=>(hb.mono hB).cell hq)
 obtain ⟨op,lit,eh,en,hi,lo,args⟩:=e
 obtain ⟨A,cap,rfl,-,-,-,-,-,-,hs⟩:=RE.inv he
 have hla:=hs.len
 obtain ⟨wa,hwa,hsa,hba,hca,-⟩:=al w (nA kind head name op lit eh en hi lo A args.length cap A1 thn.length c1 A2 els.length c2) 47
 obtain ⟨y0,y1,y2,y3,y4,y5,y6,y7,y8,y9,y10,y11,y12,y13⟩:=dm hca
 have hza:wa.cell? ⟨0,0,none⟩=some (.int .i64 m):=(bx hba 0 0 (by omega)).trans hz
 have hNh:=aV head m wa (Bj h1 (by decide)) hza
 have hNn:=aV name m wa (Bj h2' (by decide)) hza
 clear hca
 have hX1:=hX0 wa hba
 clear hX0 hr he hT hE hs hel
 replace hba:=aa hba
 have hle:w.heap.size≤wa.heap.size:=by omega
 have hbw:(thn.length:Int)+(els.length:Int)≤9223372036854775807:=by unfold sm at hsm;omega
 show Calls _ _ #[.agg #[.int .u8 kind,.string head,.string name,.int .u8 op,.int .i64 lit.1,.int .u64 lit.2.1,.int .u64 lit.2.2,.string eh,.string en,.int .i64 hi,.int .i64 lo,.slice A args.length cap,.slice A1 thn.length c1,.slice A2 els.length c2],.int .i64 (deep:Int)] _ _
 have hbz:¬((thn.length:Int)+(els.length:Int)>0):=by omega
 have hcat:head.size+name.size≤9223372036854775807:=by unfold sm at h1 h2';omega
 subst hk
 have hX:Hid (Calls prog 28 #[.agg (aO op lit eh en hi lo A args.length cap)] wa fun r w'=>r=.returned (.bool (cj (.mk op lit eh en hi lo args)))∧Below wa.heap.size wa w'):=aa hX1
 clear hX1
 generalize cj (.mk op lit eh en hi lo args)=z at hX ⊢
 clear hNh hNn
 by_cases e1:head=aB∧name=aB
 ·rw [decide_eq_true e1]
  have q1:=ir.1 e1
  clear e1
  go_enter func148,ntmps148
  go_wp2_with (go_at_call 28;refine hX.out.mono ?_;rintro e w1 ⟨rfl,hb1⟩)
  go_ret
  exact ⟨rfl,hba.out.trans (hb1.mono hle)⟩
 ·rw [decide_eq_false e1]
  have q1:=fun h=>e1 (ir.2 h)
  clear e1
  go_enter func148,ntmps148
  go_wp2
  go_ret
  exact ⟨rfl,hba.out⟩
theorem qX {m:Int} {B:Nat} (kind:Int) (hk:kind=6) (head name:ByteArray) (e:Ex) (thn els:List St) (cs:List Value) (w:World) (deep:Nat) (hr:dR w B cs (.mk kind head name e thn els)) (hel:cs.length=14)
  (hB:B≤w.heap.size) (h00:0<B) (hz:w.cell? ⟨0,0,none⟩=some (.int .i64 m)) (hb:thn.length+els.length=0):
  Calls prog 148 #[.agg cs.toArray,.int .i64 (deep:Int)] w fun r w'=>r=.returned (.bool (aM (.mk kind head name e thn els) deep))∧Below w.heap.size w w':=by
 have hv:aM (.mk kind head name e thn els) deep=(av head&&(decide (name=aB)&&dU e)):=by
  simp [aM,vh hb,hk,BJ]
 rw [hv]
 clear hv
 obtain ⟨es,A1,c1,A2,c2,rfl,h0,h1,h2',he,hT,hE⟩:=RS.inv hr
 have hsm:=RS.small hr
 have l1:=hT.len
 have l2:=hE.len
 have hX0:=fun (W:World) (hb:Below w.heap.size w W)=>gd e es W (ai.keep he fun q hq=>(hb.mono hB).cell hq)
 obtain ⟨op,lit,eh,en,hi,lo,args⟩:=e
 obtain ⟨A,cap,rfl,-,-,-,-,-,-,hs⟩:=RE.inv he
 have hla:=hs.len
 obtain ⟨wa,hwa,hsa,hba,hca,-⟩:=al w (nA kind head name op lit eh en hi lo A args.length cap A1 thn.length c1 A2 els.length c2) 47
 obtain ⟨y0,y1,y2,y3,y4,y5,y6,y7,y8,y9,y10,y11,y12,y13⟩:=dm hca
 have hza:wa.cell? ⟨0,0,none⟩=some (.int .i64 m):=(bx hba 0 0 (by omega)).trans hz
 have hNh:=aV head m wa (Bj h1 (by decide)) hza
 have hNn:=aV name m wa (Bj h2' (by decide)) hza
 clear hca
 have hX1:=hX0 wa hba
 clear hX0 hr he hT hE hs hel
 replace hba:=aa hba
 have hle:w.heap.size≤wa.heap.size:=by omega
 have hbw:(thn.length:Int)+(els.length:Int)≤9223372036854775807:=by unfold sm at hsm;omega
 show Calls _ _ #[.agg #[.int .u8 kind,.string head,.string name,.int .u8 op,.int .i64 lit.1,.int .u64 lit.2.1,.int .u64 lit.2.2,.string eh,.string en,.int .i64 hi,.int .i64 lo,.slice A args.length cap,.slice A1 thn.length c1,.slice A2 els.length c2],.int .i64 (deep:Int)] _ _
 have hbz:¬((thn.length:Int)+(els.length:Int)>0):=by omega
 subst hk
 have hX:Hid (Calls prog 202 #[.agg (aO op lit eh en hi lo A args.length cap)] wa fun r w'=>r=.returned (.bool (dU (.mk op lit eh en hi lo args)))∧Below wa.heap.size wa w'):=aa hX1
 clear hX1
 generalize dU (.mk op lit eh en hi lo args)=z at hX ⊢
 clear hNn
 generalize av head=y at hNh ⊢
 cases y
 rotate_right
 focus
  by_cases e1:name=aB
  focus
   rw [decide_eq_true e1]
   have q1:=ak.1 e1
   clear e1
   go_enter func148,ntmps148
   go_wp2_with (first|(go_at_call 58;refine hNh.mono ?_;rintro e w' ⟨rfl,rfl⟩)|(go_at_call 202;refine hX.out.mono ?_;rintro e w1 ⟨rfl,hb1⟩))
   go_ret
   exact ⟨rfl,hba.out.trans (hb1.mono hle)⟩
  rotate_right
  rw [decide_eq_false e1]
  have q1:=fun h=>e1 (ak.2 h)
  clear e1
 all_goals
  go_enter func148,ntmps148
  go_wp2_with (go_at_call 58;refine hNh.mono ?_;rintro e w' ⟨rfl,rfl⟩)
  go_ret
  exact ⟨rfl,hba.out⟩
theorem qY {m:Int} {B:Nat} (kind:Int) (hk:kind=7) (head name:ByteArray) (e:Ex) (thn els:List St) (cs:List Value) (w:World) (deep:Nat) (hr:dR w B cs (.mk kind head name e thn els)) (hel:cs.length=14)
  (hB:B≤w.heap.size) (h00:0<B) (hz:w.cell? ⟨0,0,none⟩=some (.int .i64 m)) (hb:thn.length+els.length=0):
  Calls prog 148 #[.agg cs.toArray,.int .i64 (deep:Int)] w fun r w'=>r=.returned (.bool (aM (.mk kind head name e thn els) deep))∧Below w.heap.size w w':=by
 have hv:aM (.mk kind head name e thn els) deep=(av head&&(decide (name=aB)&&dU e)):=by
  simp [aM,vh hb,hk,BJ]
 rw [hv]
 clear hv
 obtain ⟨es,A1,c1,A2,c2,rfl,h0,h1,h2',he,hT,hE⟩:=RS.inv hr
 have hsm:=RS.small hr
 have l1:=hT.len
 have l2:=hE.len
 have hX0:=fun (W:World) (hb:Below w.heap.size w W)=>gd e es W (ai.keep he fun q hq=>(hb.mono hB).cell hq)
 obtain ⟨op,lit,eh,en,hi,lo,args⟩:=e
 obtain ⟨A,cap,rfl,-,-,-,-,-,-,hs⟩:=RE.inv he
 have hla:=hs.len
 obtain ⟨wa,hwa,hsa,hba,hca,-⟩:=al w (nA kind head name op lit eh en hi lo A args.length cap A1 thn.length c1 A2 els.length c2) 47
 obtain ⟨y0,y1,y2,y3,y4,y5,y6,y7,y8,y9,y10,y11,y12,y13⟩:=dm hca
 have hza:wa.cell? ⟨0,0,none⟩=some (.int .i64 m):=(bx hba 0 0 (by omega)).trans hz
 have hNh:=aV head m wa (Bj h1 (by decide)) hza
 have hNn:=aV name m wa (Bj h2' (by decide)) hza
 clear hca
 have hX1:=hX0 wa hba
 clear hX0 hr he hT hE hs hel
 replace hba:=aa hba
 have hle:w.heap.size≤wa.heap.size:=by omega
 have hbw:(thn.length:Int)+(els.length:Int)≤9223372036854775807:=by unfold sm at hsm;omega
 show Calls _ _ #[.agg #[.int .u8 kind,.string head,.string name,.int .u8 op,.int .i64 lit.1,.int .u64 lit.2.1,.int .u64 lit.2.2,.string eh,.string en,.int .i64 hi,.int .i64 lo,.slice A args.length cap,.slice A1 thn.length c1,.slice A2 els.length c2],.int .i64 (deep:Int)] _ _
 have hbz:¬((thn.length:Int)+(els.length:Int)>0):=by omega
 subst hk
 have hX:Hid (Calls prog 202 #[.agg (aO op lit eh en hi lo A args.length cap)] wa fun r w'=>r=.returned (.bool (dU (.mk op lit eh en hi lo args)))∧Below wa.heap.size wa w'):=aa hX1
 clear hX1
 generalize dU (.mk op lit eh en hi lo args)=z at hX ⊢
 clear hNn
 generalize av head=y at hNh ⊢
 cases y
 rotate_right
 focus
  by_cases e1:name=aB
  focus
   rw [decide_eq_true e1]
   have q1:=ak.1 e1
   clear e1
   go_enter func148,ntmps148
   go_wp2_with (first|(go_at_call 58;refine hNh.mono ?_;rintro e w' ⟨rfl,rfl⟩)|(go_at_call 202;refine hX.out.mono ?_;rintro e w1 ⟨rfl,hb1⟩))
   go_ret
   exact ⟨rfl,hba.out.trans (hb1.mono hle)⟩
  rotate_right
  rw [decide_eq_false e1]
  have q1:=fun h=>e1 (ak.2 h)
  clear e1
 all_goals
  go_enter func148,ntmps148
  go_wp2_with (go_at_call 58;refine hNh.mono ?_;rintro e w' ⟨rfl,rfl⟩)
  go_ret
  exact ⟨rfl,hba.out⟩
theorem xv {m:Int} {B:Nat} (kind:Int) (hk:kind=1) (head name:ByteArray) (e:Ex) (thn els:List St) (cs:List Value) (w:World) (deep:Nat) (hr:dR w B cs (.mk kind head name e thn els)) (hel:cs.length=14)
  (hB:B≤w.heap.size) (h00:0<B) (hz:w.cell? ⟨0,0,none⟩=some (.int .i64 m)) (hb:thn.length+els.length=0):
  Calls prog 148 #[.agg cs.toArray,.int .i64 (deep:Int)] w fun r w'=>r=.returned (.bool (aM (.mk kind head name e thn els) deep))∧Below w.heap.size w w':=by
 have hv:aM (.mk kind head name e thn els) deep=((decide (head=aB) ||av head)&&(av name&&cj e)):=by
  simp [aM,vh hb,hk,BJ]
 rw [hv]
 clear hv
 obtain ⟨es,A1,c1,A2,c2,rfl,h0,h1,h2',he,hT,hE⟩:=RS.inv hr
 have hsm:=RS.small hr
 have l1:=hT.len
 have l2:=hE.len
 have hX0:=fun (W:World) (hb:Below w.heap.size w W)=>dD e es W (Bj hB hb.size) h00 (fo (Bg h00 hB) hz hb) (ai.keep he fun q hq=>(hb.mono hB).cell hq)
 obtain ⟨op,lit,eh,en,hi,lo,args⟩:=e
 obtain ⟨A,cap,rfl,-,-,-,-,-,-,hs⟩:=RE.inv he
 have hla:=hs.len
 obtain ⟨wa,hwa,hsa,hba,hca,-⟩:=al w (nA kind head name op lit eh en hi lo A args.length cap A1 thn.length c1 A2 els.length c2) 47
 obtain ⟨y0,y1,y2,y3,y4,y5,y6,y7,y8,y9,y10,y11,y12,y13⟩:=dm hca
 have hza:wa.cell? ⟨0,0,none⟩=some (.int .i64 m):=(bx hba 0 0 (by omega)).trans hz
 have hNh:=aV head m wa (Bj h1 (by decide)) hza
 have hNn:=aV name m wa (Bj h2' (by decide)) hza
 clear hca
 have hX1:=hX0 wa hba
 clear hX0 hr he hT hE hs hel
 replace hba:=aa hba
 have hle:w.heap.size≤wa.heap.size:=by omega
 have hbw:(thn.length:Int)+(els.length:Int)≤9223372036854775807:=by unfold sm at hsm;omega
 show Calls _ _ #[.agg #[.int .u8 kind,.string head,.string name,.int .u8 op,.int .i64 lit.1,.int .u64 lit.2.1,.int .u64 lit.2.2,.string eh,.string en,.int .i64 hi,.int .i64 lo,.slice A args.length cap,.slice A1 thn.length c1,.slice A2 els.length c2],.int .i64 (deep:Int)] _ _
 have hbz:¬((thn.length:Int)+(els.length:Int)>0):=by omega
 subst hk
 have hX:Hid (Calls prog 28 #[.agg (aO op lit eh en hi lo A args.length cap)] wa fun r w'=>r=.returned (.bool (cj (.mk op lit eh en hi lo args)))∧Below wa.heap.size wa w'):=aa hX1
 clear hX1
 generalize cj (.mk op lit eh en hi lo args)=z at hX ⊢
 by_cases e1:head=aB
 ·rw [decide_eq_true e1]
  have q1:=ak.1 e1
  clear e1 hNh
  generalize av name=y2 at hNn ⊢
  cases y2 with
  |false=>
   go_enter func148,ntmps148
   go_wp2_with (first|(go_at_call 58;refine hNn.mono ?_;rintro e w' ⟨rfl,rfl⟩)|(go_at_call 28;refine hX.out.mono ?_;rintro e w1 ⟨rfl,hb1⟩))
   go_ret
   exact ⟨rfl,hba.out⟩
  |true=>
   go_enter func148,ntmps148
   go_wp2_with (first|(go_at_call 58;refine hNn.mono ?_;rintro e w' ⟨rfl,rfl⟩)|(go_at_call 28;refine hX.out.mono ?_;rintro e w1 ⟨rfl,hb1⟩))
   go_ret
   exact ⟨rfl,hba.out.trans (hb1.mono hle)⟩
 ·rw [decide_eq_false e1]
  have q1:=fun h=>e1 (ak.2 h)
  clear e1
  generalize av head=y at hNh ⊢
  cases y with
  |false=>
   go_enter func148,ntmps148
   go_wp2_with (go_at_call 58;refine hNh.mono ?_;rintro e w' ⟨rfl,rfl⟩)
   go_ret
   exact ⟨rfl,hba.out⟩
  |true=>
   generalize av name=y2 at hNn ⊢
   cases y2 with
   |false=>
    go_enter func148,ntmps148
    go_wp2_with (first|(go_at_call 58;first|(with_reducible refine hNh.mono ?_;rintro e w' ⟨rfl,rfl⟩)|(with_reducible refine hNn.mono ?_;rintro e w' ⟨rfl,rfl⟩))|(go_at_call 28;refine hX.out.mono ?_;rintro e w1 ⟨rfl,hb1⟩))
    go_ret
    exact ⟨rfl,hba.out⟩
   |true=>
    go_enter func148,ntmps148
    go_wp2_with (first|(go_at_call 58;first|(with_reducible refine hNh.mono ?_;rintro e w' ⟨rfl,rfl⟩)|(with_reducible refine hNn.mono ?_;rintro e w' ⟨rfl,rfl⟩))|(go_at_call 28;refine hX.out.mono ?_;rintro e w1 ⟨rfl,hb1⟩))
    go_ret
    exact ⟨rfl,hba.out.trans (hb1.mono hle)⟩
theorem yU {m:Int} {B:Nat} (kind:Int) (hk:kind=2) (head name:ByteArray) (e:Ex) (thn els:List St) (cs:List Value) (w:World) (deep:Nat) (hr:dR w B cs (.mk kind head name e thn els)) (hel:cs.length=14)
  (hB:B≤w.heap.size) (h00:0<B) (hz:w.cell? ⟨0,0,none⟩=some (.int .i64 m)) (hd:deep≤8) (ih1:∀ x∈thn,jB m B x) (ih2:∀ x∈els,jB m B x):
  Calls prog 148 #[.agg cs.toArray,.int .i64 (deep:Int)] w fun r w'=>r=.returned (.bool (aM (.mk kind head name e thn els) deep))∧Below w.heap.size w w':=by
 have hv:aM (.mk kind head name e thn els) deep=(decide (head=aB∧name=aB)&&(cj e&&(aY thn (deep+1)&&aY els (deep+1)))):=by
  simp only [aM,hk,if_neg (show ¬(2:Int)=1 by decide),if_true,aY,Bool.decide_and,BJ]
 rw [hv]
 clear hv
 obtain ⟨es,A1,c1,A2,c2,rfl,h0,h1,h2',he,hT,hE⟩:=RS.inv hr
 have hsm:=RS.small hr
 have l1:=hT.len
 have l2:=hE.len
 have hX0:=fun (W:World) (hb:Below w.heap.size w W)=>dD e es W (Bj hB hb.size) h00 (fo (Bg h00 hB) hz hb) (ai.keep he fun q hq=>(hb.mono hB).cell hq)
 obtain ⟨op,lit,eh,en,hi,lo,args⟩:=e
 obtain ⟨A,cap,rfl,-,-,-,-,-,-,hs⟩:=RE.inv he
 have hla:=hs.len
 obtain ⟨wa,hwa,hsa,hba,hca,-⟩:=al w (nA kind head name op lit eh en hi lo A args.length cap A1 thn.length c1 A2 els.length c2) 47
 obtain ⟨y0,y1,y2,y3,y4,y5,y6,y7,y8,y9,y10,y11,y12,y13⟩:=dm hca
 have hb0:Below wa.heap.size wa wa:=Bi _ _
 have hBk:=aa (show ∀ W,Below wa.heap.size wa W→Below w.heap.size w W from fun W hb=>hba.trans (hb.mono (by omega)))
 have hc0:∀ W,Below wa.heap.size wa W→W.cell? ⟨0,0,none⟩=some (.int .i64 m):=fun W hb=>((bx hb 0 0 (by omega)).trans ((bx hba 0 0 (by omega)).trans hz))
 have hBW:∀ W,Below wa.heap.size wa W→B≤W.heap.size:=fun W hb=>by have:=hb.size;omega
 have q1:Hid (∀ (W:World),Below wa.heap.size wa W→Calls prog 28 #[.agg (aO op lit eh en hi lo A args.length cap)] W fun r w'=>r=.returned (.bool (cj (.mk op lit eh en hi lo args)))∧Below wa.heap.size wa w'):=aa (fun W hb=>(hX0 W (hBk.out W hb)).mono fun e w' h=>⟨h.1,hb.trans (h.2.mono hb.size)⟩)
 have hdd:((deep+1:Nat):Int)=(deep:Int)+1:=by omega
 have q2:Hid (∀ (W:World),Below wa.heap.size wa W→Calls prog 68 #[.slice A1 thn.length c1,.int .i64 ((deep:Int)+1)] W fun r w'=>r=.returned (.bool (aY thn (deep+1)))∧Below wa.heap.size wa w'):=aa (fun W hb=>by
  rw [←hdd]
  exact (lU thn ih1 A1 c1 W (deep+1) (by omega) (hBW W hb) h00 (hc0 W hb) (hT.below be ((hBk.out W hb).mono hB))).mono fun e w' h=>⟨h.1,hb.trans (h.2.mono hb.size)⟩)
 have q3:Hid (∀ (W:World),Below wa.heap.size wa W→Calls prog 68 #[.slice A2 els.length c2,.int .i64 ((deep:Int)+1)] W fun r w'=>r=.returned (.bool (aY els (deep+1)))∧Below wa.heap.size wa w'):=aa (fun W hb=>by
  rw [←hdd]
  exact (lU els ih2 A2 c2 W (deep+1) (by omega) (hBW W hb) h00 (hc0 W hb) (hE.below be ((hBk.out W hb).mono hB))).mono fun e w' h=>⟨h.1,hb.trans (h.2.mono hb.size)⟩)
 have hbw:(thn.length:Int)+(els.length:Int)≤9223372036854775807:=by unfold sm at hsm;omega
 have hcat:head.size+name.size≤9223372036854775807:=by unfold sm at h1 h2';omega
 have hdz:(deep:Int)≤8:=by omega
 clear hca hX0 hr he hT hE hs hel hba hc0 hBW hz ih1 ih2 hdd
 subst hk
 generalize cj (.mk op lit eh en hi lo args)=z1 at q1 ⊢
 generalize aY thn (deep+1)=z2 at q2 ⊢
 generalize aY els (deep+1)=z3 at q3 ⊢
 show Calls _ _ #[.agg #[.int .u8 2,.string head,.string name,.int .u8 op,.int .i64 lit.1,.int .u64 lit.2.1,.int .u64 lit.2.2,.string eh,.string en,.int .i64 hi,.int .i64 lo,.slice A args.length cap,.slice A1 thn.length c1,.slice A2 els.length c2],.int .i64 (deep:Int)] _ _
 by_cases e1:head=aB∧name=aB
 focus
  rw [decide_eq_true e1]
  have q0:=ir.1 e1
  clear e1
  cases z1
  rotate_right
  focus
   cases z2
   rotate_right
   focus cases z3
 rotate_right
 focus
  rw [decide_eq_false e1]
  have q0:=fun h=>e1 (ir.2 h)
  clear e1 q1 q2 q3
  go_enter func148,ntmps148
  go_wp2
  go_ret
  exact ⟨by simp,hBk.out _ hb0⟩
 all_goals
  go_enter func148,ntmps148
  go_wp2_with (first|(go_at_call 28;refine (q1.out _ ‹_›).mono ?_;rintro e w1 ⟨rfl,hb1⟩;have khb1:=ab hb1)|(go_at_call 68;first|(with_reducible refine (q2.out _ ‹_›).mono ?_;rintro e w1 ⟨rfl,hb2⟩;have khb2:=ab hb2)|(with_reducible refine (q3.out _ ‹_›).mono ?_;rintro e w1 ⟨rfl,hb3⟩)))
  go_ret
  exact ⟨ah (by simp),hBk.out _ ‹_›⟩
theorem yV {w:World} {B:Nat} {cs:List Value} {s:St} (h:dR w B cs s):cs.length=14:=by
 obtain ⟨kind,head,name,e,thn,els⟩:=s
 obtain ⟨es,A1,c1,A2,c2,rfl,-,-,-,he,-,-⟩:=RS.inv h
 obtain ⟨op,lit,eh,en,hi,lo,args⟩:=e
 obtain ⟨A,cap,rfl,-⟩:=RE.inv he
 rfl
theorem oE {m:Int} {B:Nat} (s:St):jB m B s:=by
 induction s using St.ind with
 |h kind head name e thn els ih1 ih2=>
  intro cs w deep hd hB h00 hz hr
  have hel:=yV hr
  by_cases h2:kind=2
  ·exact yU kind h2 head name e thn els cs w deep hr hel hB h00 hz hd ih1 ih2
  ·by_cases hb:thn.length+els.length=0
   ·by_cases h1:kind=1
    ·exact xv kind h1 head name e thn els cs w deep hr hel hB h00 hz hb
    by_cases h3:kind=3
    ·exact sQ kind h3 head name e thn els cs w deep hr hel hB h00 hz hb
    by_cases h4:kind=4
    ·exact vi kind h4 head name e thn els cs w deep hr hel hB h00 hz hb
    by_cases h5:kind=5
    ·exact xu kind h5 head name e thn els cs w deep hr hel hB h00 hz hb
    by_cases h6:kind=6
    ·exact qX kind h6 head name e thn els cs w deep hr hel hB h00 hz hb
    by_cases h7:kind=7
    ·exact qY kind h7 head name e thn els cs w deep hr hel hB h00 hz hb
    exact sP (m:=m) (B:=B) kind head name e thn els cs w deep hr hel h1 h2 h3 h4 h5 h6 h7 hb (by omega)
   ·have hsm:=RS.small hr
    unfold sm at hsm
    exact qW (m:=m) (B:=B) kind head name e thn els cs w deep hr hel h2 hb (by omega)
theorem nH:∀ args w,(callFunc 58 args).run prog w=.ok (.enter 58 args) w:=enters_of func58 (by kernel_rfl) rfl
theorem mI:∀ args w,(callFunc 60 args).run prog w=.ok (.enter 60 args) w:=enters_of func60 (by kernel_rfl) rfl
theorem pz:∀ args w,(callFunc 49 args).run prog w=.ok (.enter 49 args) w:=enters_of func49 (by kernel_rfl) rfl
theorem pA:∀ args w,(callFunc 138 args).run prog w=.ok (.enter 138 args) w:=enters_of func138 (by kernel_rfl) rfl
theorem mJ:∀ args w,(callFunc 28 args).run prog w=.ok (.enter 28 args) w:=enters_of func28 (by kernel_rfl) rfl
theorem kn {m:Int} {B:Nat} (l:List ByteArray) (A:Option Addr) (cap:Nat) (w:World) (hB:B≤w.heap.size) (h0:0<B) (hz:w.cell? ⟨0,0,none⟩=some (.int .i64 m)) (h:Sl 1 iy w B A l):
  Calls prog 69 #[.slice A l.length cap,.func (.func 58) #[] #[]] w fun e w'=>e=.returned (.bool (l.all av))∧Below w.heap.size w w':=
 sH aW 58 #[] nH av A cap l w hB h (fun i x cs W hx hb hr hel=>by
  obtain ⟨rfl,hs⟩:=hr
  exact (aV x m W hs (fo (by omega) hz hb)).mono fun e w' h=>⟨h.1,h.2 ▸ Bi _ _⟩)
theorem iV {m:Int} {B:Nat} (l:List Fd) (A:Option Addr) (cap:Nat) (w:World) (hB:B≤w.heap.size) (h0:0<B) (hz:w.cell? ⟨0,0,none⟩=some (.int .i64 m)) (h:Sl 2 sq w B A l):
  Calls prog 59 #[.slice A l.length cap,.func (.func 60) #[] #[]] w fun e w'=>e=.returned (.bool (l.all gB))∧Below w.heap.size w w':=
 uJ bA 60 #[] mI gB A cap l w hB h (fun i x cs W hx hb hr hel=>by
  obtain ⟨rfl,hs,-⟩:=hr
  exact qu x m W hs (fo (by omega) hz hb))
theorem xx {m:Int} {B:Nat} (l:List Lt) (A:Option Addr) (cap:Nat) (w:World) (hB:B≤w.heap.size) (h0:0<B) (hz:w.cell? ⟨0,0,none⟩=some (.int .i64 m)) (h:Sl 3 Ap w B A l):
  Calls prog 145 #[.slice A l.length cap,.func (.func 49) #[] #[]] w fun e w'=>e=.returned (.bool (l.all cr))∧Below w.heap.size w w':=
 yI mc 49 #[] pz cr A cap l w hB h (fun i x cs W hx hb hr hel=>by
  obtain ⟨rfl,hs⟩:=hr
  exact il x W hs)
theorem xy {m:Int} {B:Nat} (l:List Se) (A:Option Addr) (cap:Nat) (w:World) (hB:B≤w.heap.size) (h0:0<B) (hz:w.cell? ⟨0,0,none⟩=some (.int .i64 m)) (h:Sl 7 Aq w B A l):
  Calls prog 137 #[.slice A l.length cap,.func (.func 138) #[] #[]] w fun e w'=>e=.returned (.bool (l.all fA))∧Below w.heap.size w w':=
 yG jW 138 #[] pA fA A cap l w hB h (fun i x cs W hx hb hr hel=>by
  obtain ⟨rfl,h1,h2,h3⟩:=hr
  exact ve x W h1 h2 h3)
theorem vj {m:Int} {B:Nat} (l:List Ex) (A:Option Addr) (cap:Nat) (w:World) (hB:B≤w.heap.size) (h0:0<B) (hz:w.cell? ⟨0,0,none⟩=some (.int .i64 m)) (h:Sl 9 dL w B A l):
  Calls prog 52 #[.slice A l.length cap,.func (.func 28) #[] #[]] w fun e w'=>e=.returned (.bool (l.all cj))∧Below w.heap.size w w':=
 qt ai 28 #[] mJ cj A cap l w hB h (fun i x cs W hx hb hr hel=>by
  exact dD x cs W (by have:=hb.size;omega) h0 (fo (by omega) hz hb) hr)
theorem mK:∀ args w,(callFunc 143 args).run prog w=.ok (.enter 143 args) w:=enters_of func143 (by kernel_rfl) rfl
theorem yW {m:Int} {B:Nat} (k:Ky) (cs:List Value) (w:World) (hB:B≤w.heap.size) (h0:0<B) (hz:w.cell? ⟨0,0,none⟩=some (.int .i64 m)) (hr:As w B cs k):
  Calls prog 143 #[.agg cs.toArray] w fun r w'=>r=.returned (.bool (sB k))∧Below w.heap.size w w':=by
 obtain ⟨es,hcs,hu,he⟩:=hr
 obtain ⟨⟨op,lit,head,name,hi,lo,args⟩,kind⟩:=k
 replace hu:u8 kind:=hu
 replace he:dL w B es (.mk op lit head name hi lo args):=he
 obtain ⟨A,cap,rfl,-,-,-,-,-,-,hs⟩:=RE.inv he
 have hcs':cs= [.int .u8 op,.int .i64 lit.1,.int .u64 lit.2.1,.int .u64 lit.2.2,.string head,.string name,.int .i64 hi,.int .i64 lo,.slice A args.length cap,.int .u8 kind]:=by rw [hcs];simp only [uA,BC,BH]
 clear hcs
 subst hcs'
 have hla:=hs.len
 obtain ⟨wa,hwa,hsa,hba,hca,-⟩:=al w #[.int .u8 op,.int .i64 lit.1,.int .u64 lit.2.1,.int .u64 lit.2.2,.string head,.string name,.int .i64 hi,.int .i64 lo,.slice A args.length cap,.int .u8 kind] 52
 obtain ⟨y0,y1,y2,y3,y4,y5,y6,y7,y8,y9⟩:=zN hca
 have hb0:Below wa.heap.size wa wa:=Bi _ _
 have hBk:=aa (show ∀ W,Below wa.heap.size wa W→Below w.heap.size w W from fun W hb=>hba.trans (hb.mono (by omega)))
 have hc0:∀ W,Below wa.heap.size wa W→W.cell? ⟨0,0,none⟩=some (.int .i64 m):=fun W hb=>((bx hb 0 0 (by omega)).trans ((bx hba 0 0 (by omega)).trans hz))
 have hBW:∀ W,Below wa.heap.size wa W→B≤W.heap.size:=fun W hb=>by have:=hb.size;omega
 have q1:Hid (∀ (W:World),Below wa.heap.size wa W→Calls prog 28 #[.agg (aO op lit head name hi lo A args.length cap)] W fun e w'=>e=.returned (.bool (cj (.mk op lit head name hi lo args)))∧Below wa.heap.size wa w'):=aa (fun (W:World) (hb:Below wa.heap.size wa W)=>(dD (.mk op lit head name hi lo args) (uA op lit head name hi lo A args.length cap) W (hBW W hb) h0 (hc0 W hb) (ai.keep he fun q hq=>(hba.trans (hb.mono (by omega))).cell (Bg hq hB))).mono (fun e w' h=>(⟨h.1,hb.trans (h.2.mono hb.size)⟩:e=_∧Below wa.heap.size wa w')))
 have hv:sB ⟨.mk op lit head name hi lo args,kind⟩=(cj (.mk op lit head name hi lo args)&&(decide (1≤kind)&&decide (kind≤3))):=by simp only [sB,Bool.decide_and]
 rw [hv]
 generalize cj (.mk op lit head name hi lo args)=z1 at q1 ⊢
 show Calls _ _ #[.agg #[.int .u8 op,.int .i64 lit.1,.int .u64 lit.2.1,.int .u64 lit.2.2,.string head,.string name,.int .i64 hi,.int .i64 lo,.slice A args.length cap,.int .u8 kind]] _ _
 clear hca hba hc0 hBW hv he hs hz
 cases z1
 rotate_right
 focus
  by_cases n1:1≤kind
  focus
   rw [decide_eq_true n1]
   have i1:1≤kind:=by omega
   by_cases n2:kind≤3
   rw [decide_eq_true n2]
   have i2:kind≤3:=by omega
   rotate_right
   rw [decide_eq_false n2]
   have i2:¬(kind≤3):=by omega
  rotate_right
  rw [decide_eq_false n1]
  have i1:¬(1≤kind):=by omega
 all_goals
  go_enter func143,ntmps143
  go_wp2_with (first|(go_at_call 28;refine (q1.out _ ‹_›).mono ?_;rintro e w1 ⟨rfl,hb1⟩;have khb1:=ab hb1))
  go_ret
  exact ⟨ah (by first|(simp;done)|(simp;omega)|(simp;unfold wrap64;omega)),hBk.out _ ‹_›⟩
theorem xz {m:Int} {B:Nat} (l:List Ky) (A:Option Addr) (cap:Nat) (w:World) (hB:B≤w.heap.size) (h0:0<B) (hz:w.cell? ⟨0,0,none⟩=some (.int .i64 m)) (h:Sl 10 As w B A l):
  Calls prog 144 #[.slice A l.length cap,.func (.func 143) #[] #[]] w fun e w'=>e=.returned (.bool (l.all sB))∧Below w.heap.size w w':=
 yH jX 143 #[] mK sB A cap l w hB h (fun i x cs W hx hb hr hel=>yW x cs W (by have:=hb.size;omega) h0 (fo (by omega) hz hb) hr)
theorem pB {m:Int} {B:Nat} (t:Ta) (cs:List Value) (w:World) (hB:B≤w.heap.size) (h0:0<B) (hz:w.cell? ⟨0,0,none⟩=some (.int .i64 m)) (hr:wT w B cs t):
  Calls prog 67 #[.agg cs.toArray] w fun r w'=>r=.returned (.bool (ob t))∧Below w.heap.size w w':=by
 obtain ⟨A1,c1,A2,c2,A3,c3,rfl,hn,hd,hK,hT,hL⟩:=hr
 have l1:=hK.len
 have l2:=hT.len
 have l3:=hL.len
 obtain ⟨wa,hwa,hsa,hba,hca,-⟩:=al w #[.string t.name,.slice A1 t.keys.length c1,.slice A2 t.actions.length c2,.string t.dname,.slice A3 t.dargs.length c3] 58
 obtain ⟨y0,y1,y2,y3,y4⟩:=fR hca
 have hb0:Below wa.heap.size wa wa:=Bi _ _
 have hBk:=aa (show ∀ W,Below wa.heap.size wa W→Below w.heap.size w W from fun W hb=>hba.trans (hb.mono (by omega)))
 have hc0:∀ W,Below wa.heap.size wa W→W.cell? ⟨0,0,none⟩=some (.int .i64 m):=fun W hb=>((bx hb 0 0 (by omega)).trans ((bx hba 0 0 (by omega)).trans hz))
 have hBW:∀ W,Below wa.heap.size wa W→B≤W.heap.size:=fun W hb=>by have:=hb.size;omega
 have hk:∀ W,Below wa.heap.size wa W→Below B w W:=fun W hb=>(hba.trans (hb.mono (by omega))).mono hB
 have q1:=aa (fun W hb=>aV t.name m W hn (hc0 W hb))
 have q4:=aa (fun W hb=>aV t.dname m W hd (hc0 W hb))
 have q2:=aa (fun (W:World) (hb:Below wa.heap.size wa W)=>(xz t.keys A1 c1 W (hBW W hb) h0 (hc0 W hb) (hK.below jX (hk W hb))).mono (fun e w' h=>(⟨h.1,hb.trans (h.2.mono hb.size)⟩:e=_∧Below wa.heap.size wa w')))
 have q3:=aa (fun (W:World) (hb:Below wa.heap.size wa W)=>(kn t.actions A2 c2 W (hBW W hb) h0 (hc0 W hb) (hT.below aW (hk W hb))).mono (fun e w' h=>(⟨h.1,hb.trans (h.2.mono hb.size)⟩:e=_∧Below wa.heap.size wa w')))
 have q5:=aa (fun (W:World) (hb:Below wa.heap.size wa W)=>(xx t.dargs A3 c3 W (hBW W hb) h0 (hc0 W hb) (hL.below mc (hk W hb))).mono (fun e w' h=>(⟨h.1,hb.trans (h.2.mono hb.size)⟩:e=_∧Below wa.heap.size wa w')))
 have hv:ob t=(av t.name&&(decide (1≤t.keys.length)&&(decide (t.keys.length≤4)&&(t.keys.all sB&&(decide (1≤t.actions.length)&&(decide (t.actions.length≤16)&&(t.actions.all av&&(av t.dname&&(decide (t.dargs.length≤8)&&t.dargs.all cr))))))))):=by
  simp only [ob,Bool.decide_and,BJ]
 rw [hv]
 generalize av t.name=z1 at q1 ⊢
 generalize t.keys.all sB=z2 at q2 ⊢
 generalize t.actions.all av=z3 at q3 ⊢
 generalize av t.dname=z4 at q4 ⊢
 generalize t.dargs.all cr=z5 at q5 ⊢
 show Calls _ _ #[.agg #[.string t.name,.slice A1 t.keys.length c1,.slice A2 t.actions.length c2,.string t.dname,.slice A3 t.dargs.length c3]] _ _
 clear hca hba hc0 hBW hv hk hK hT hL hz
 have eg:=mK
 cases z1
 rotate_right
 focus
  by_cases n1:1≤t.keys.length
  focus
   rw [decide_eq_true n1]
   have i1:1≤(t.keys.length:Int):=by omega
   by_cases n2:t.keys.length≤4
   focus
    rw [decide_eq_true n2]
    have i2:(t.keys.length:Int)≤4:=by omega
    cases z2
    rotate_right
    focus
     by_cases n4:1≤t.actions.length
     focus
      rw [decide_eq_true n4]
      have i4:1≤(t.actions.length:Int):=by omega
      by_cases n5:t.actions.length≤16
      focus
       rw [decide_eq_true n5]
       have i5:(t.actions.length:Int)≤16:=by omega
       cases z3
       rotate_right
       focus
        cases z4
        rotate_right
        focus
         by_cases n8:t.dargs.length≤8
         focus
          rw [decide_eq_true n8]
          have i8:(t.dargs.length:Int)≤8:=by omega
          cases z5
         rotate_right
         rw [decide_eq_false n8]
         have i8:¬((t.dargs.length:Int)≤8):=by omega
      rotate_right
      rw [decide_eq_false n5]
      have i5:¬((t.actions.length:Int)≤16):=by omega
     rotate_right
     rw [decide_eq_false n4]
     have i4:¬(1≤(t.actions.length:Int)):=by omega
   rotate_right
   rw [decide_eq_false n2]
   have i2:¬((t.keys.length:Int)≤4):=by omega
  rotate_right
  rw [decide_eq_false n1]
  have i1:¬(1≤(t.keys.length:Int)):=by omega
 all_goals
  go_enter func67,ntmps67
  go_wp2_with (first|(go_at_call 58;first|(with_reducible refine (q1.out _ ‹_›).mono ?_;rintro e w1 ⟨rfl,rfl⟩)|(with_reducible refine (q4.out _ ‹_›).mono ?_;rintro e w1 ⟨rfl,rfl⟩))|(go_at_call 144;refine (q2.out _ ‹_›).mono ?_;rintro e w1 ⟨rfl,hb2⟩;have khb2:=ab hb2)|(go_at_call 69;refine (q3.out _ ‹_›).mono ?_;rintro e w1 ⟨rfl,hb3⟩;have khb3:=ab hb3)|(go_at_call 145;refine (q5.out _ ‹_›).mono ?_;rintro e w1 ⟨rfl,hb5⟩;have khb5:=ab hb5))
  go_ret
  exact ⟨ah (by first|(simp;done)|(simp;omega)|(simp;unfold wrap64;omega)),hBk.out _ ‹_›⟩
end Go.Proofs.YtbbdhknagofghaaGreat

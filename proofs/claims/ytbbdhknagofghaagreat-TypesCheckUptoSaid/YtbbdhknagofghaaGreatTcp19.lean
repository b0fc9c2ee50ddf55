import Derived.Test.YtbbdhknagofghaaGreatTcp18
import Derived.Test.YtbbdhknagofghaaGreatTcp12
set_option linter.all false
set_option maxHeartbeats 8000000
set_option maxRecDepth 100000
open Go.Proofs.Tryz
namespace Go.Proofs.YtbbdhknagofghaaGreat
open _root_.Nat renaming lt_of_lt_of_le→Bg, le_trans→Bj, le_refl→Bm
open _root_.Go.Calls renaming regrown_of→Bh
open _root_.Go.RowKit.Below renaming refl→Bi
open _root_.Int renaming eq_ofNat_of_zero_le→BR
open Go.RowKit
theorem re {p:Pg} {act:Int} (hm:dz p=true) (op:Int) (lit:Lt) (head name:ByteArray) (hi lo:Int) (a b:Ex) (l:List Ex) (hea:aT a=true) (heb:aT b=true) (s t:Ty) (hs0:bI p act a=.ok s) (ht0:bI p act b=.ok t) (A:Option Addr) (cap B:Nat) (w:World) (hB:B≤w.heap.size) (hS:Sl 9 dL w B A (a::b::l)):
  Calls prog 214 #[.agg (aO op lit head name hi lo A (a::b::l).length cap),.agg #[.int .i64 s.w,.bool s.truth,.bool s.free],.agg #[.int .i64 t.w,.bool t.truth,.bool t.free]] w fun z w'=>z=.returned (.tuple #[.int .i64 (ub (dy a b s t)).1,.int .i64 (ub (dy a b s t)).2])∧Below w.heap.size w w':=by
 unfold aO
 have hs:cV s:=eu hm act a hea s hs0
 have ht:cV t:=eu hm act b heb t ht0
 obtain ⟨g,o,ca,hA,hbb,hel,hcell,ha⟩:=hS.2 0 a rfl
 obtain ⟨g',o',cb,hA',hbb',hel',hcell',hb⟩:=hS.2 1 b rfl
 subst hA
 obtain ⟨rfl,rfl⟩:g=g'∧o=o':=by simpa using hA'
 have hlen:=hS.len
 obtain ⟨n,hn⟩:∃ n,(a::b::l).length=n:=⟨_,rfl⟩
 have hn1:1<n:=by rw [←hn];simp
 have hn0:0<n:=by omega
 have hfa:=aa (fun (hf:s.free=true) (n:Nat) (h1:1≤n) (h2:n≤128) (W:World) (hW:Below w.heap.size w W)=>eS hm n h1 h2 a hea ⟨s,hs0,hf⟩ ca W B (Bj hB hW.size) (ai.keep ha fun q hq=>(hW.mono hB).cell hq))
 have hfb':=aa (fun (hf:t.free=true) (n:Nat) (h1:1≤n) (h2:n≤128) (W:World) (hW:Below w.heap.size w W)=>eS hm n h1 h2 b heb ⟨t,ht0,hf⟩ cb W B (Bj hB hW.size) (ai.keep hb fun q hq=>(hW.mono hB).cell hq))
 have hv0:=aa (show dy a b s t=(if s.truth ||t.truth then .error 9 else if s.free&&t.free then .error 10 else if s.free then (if bB t.w a then .ok t else .error 5) else if t.free then (if bB s.w b then .ok s else .error 5) else if s.w=t.w then .ok s else .error 10) from rfl)
 generalize dy a b s t=r at hv0
 rw [hn] at hlen ⊢
 clear hs0 ht0 hea heb hS hn
 have hga:∃ f:Int→Bool,∀ n,bB n a=f n:=⟨fun n=>bB n a,fun _=>rfl⟩
 obtain ⟨fa,hga⟩:=hga
 have hgb:∃ f:Int→Bool,∀ n,bB n b=f n:=⟨fun n=>bB n b,fun _=>rfl⟩
 obtain ⟨fb,hgb⟩:=hgb
 simp only [hga,hgb] at hv0 hfa hfb'
 obtain ⟨opa,lita,heada,namea,hia,loa,argsa⟩:=a
 obtain ⟨Aa,capa,rfl,-,-,-,-,-,-,hsa'⟩:=RE.inv ha
 have la:=hsa'.len
 obtain ⟨opb,litb,headb,nameb,hib,lob,argsb⟩:=b
 obtain ⟨Ab,capb,rfl,-,-,-,-,-,-,hsb'⟩:=RE.inv hb
 have lb:=hsb'.len
 obtain ⟨sw,sr,sf⟩:=s
 obtain ⟨tw,tr,tf⟩:=t
 simp only at hs ht hfa hfb' hv0 ⊢
 change Hid (∀ hf n h1 h2 W hW,Calls _ _ #[.agg (aO opa lita heada namea hia loa Aa argsa.length capa),_] _ _) at hfa
 change Hid (∀ hf n h1 h2 W hW,Calls _ _ #[.agg (aO opb litb headb nameb hib lob Ab argsb.length capb),_] _ _) at hfb'
 obtain ⟨xa0,xa1,xa2,xa3,xa4,xa5,xa6,xa7,xa8⟩:=cl hcell
 obtain ⟨xb0,xb1,xb2,xb3,xb4,xb5,xb6,xb7,xb8⟩:=cl hcell'
 simp only [Nat.zero_mul,Nat.add_zero,Nat.one_mul] at xa0 xa1 xa2 xa3 xa4 xa5 xa6 xa7 xa8 xb0 xb1 xb2 xb3 xb4 xb5 xb6 xb7 xb8
 have hgw:g<w.heap.size:=by omega
 clear ha hb hsa' hsb' hga hgb hA' hcell hcell' hel hel' hbb hbb'
 obtain ⟨wu,hwu,hsu,wx,hwx,hsx,wy,hwy,hsy,hw,cu,cx,cy,-,hl1,hl2,hl3⟩:=ql w (aO op lit head name hi lo (some ⟨g,o,none⟩) n cap) 45 #[.int .i64 sw,.bool sr,.bool sf] 75 #[.int .i64 tw,.bool tr,.bool tf] 75
 obtain ⟨u0,u1,u2,u3,u4,u5,u6,u7,u8⟩:=bU cu
 obtain ⟨x0,x1,x2⟩:=bF cx
 obtain ⟨y0,y1,y2⟩:=bF cy
 clear cu cx cy
 replace xa0:=(hw.out.cell (p:=⟨g,o,none⟩) hgw).trans xa0
 replace xa1:=(hw.out.cell (p:=⟨g,o+1,none⟩) hgw).trans xa1
 replace xa2:=(hw.out.cell (p:=⟨g,o+2,none⟩) hgw).trans xa2
 replace xa3:=(hw.out.cell (p:=⟨g,o+3,none⟩) hgw).trans xa3
 replace xa4:=(hw.out.cell (p:=⟨g,o+4,none⟩) hgw).trans xa4
 replace xa5:=(hw.out.cell (p:=⟨g,o+5,none⟩) hgw).trans xa5
 replace xa6:=(hw.out.cell (p:=⟨g,o+6,none⟩) hgw).trans xa6
 replace xa7:=(hw.out.cell (p:=⟨g,o+7,none⟩) hgw).trans xa7
 replace xa8:=(hw.out.cell (p:=⟨g,o+8,none⟩) hgw).trans xa8
 replace xb0:=(hw.out.cell (p:=⟨g,o+9,none⟩) hgw).trans xb0
 replace xb1:=(hw.out.cell (p:=⟨g,o+9+1,none⟩) hgw).trans xb1
 replace xb2:=(hw.out.cell (p:=⟨g,o+9+2,none⟩) hgw).trans xb2
 replace xb3:=(hw.out.cell (p:=⟨g,o+9+3,none⟩) hgw).trans xb3
 replace xb4:=(hw.out.cell (p:=⟨g,o+9+4,none⟩) hgw).trans xb4
 replace xb5:=(hw.out.cell (p:=⟨g,o+9+5,none⟩) hgw).trans xb5
 replace xb6:=(hw.out.cell (p:=⟨g,o+9+6,none⟩) hgw).trans xb6
 replace xb7:=(hw.out.cell (p:=⟨g,o+9+7,none⟩) hgw).trans xb7
 replace xb8:=(hw.out.cell (p:=⟨g,o+9+8,none⟩) hgw).trans xb8
 have hl9:g<wy.heap.size:=by omega
 cases sr
 focus
  cases tr
  focus
   cases sf
   focus
    cases tf
    focus
     clear hfa hfb'
     by_cases hst:sw=tw
     focus
      subst hst
      have hv:=aa (show r=.ok ⟨sw,false,false⟩ from by rw [hv0.out];simp)
     rotate_right
     have hq:(sw !=tw)=true:=bne_iff_ne.2 hst
     have hv:=aa (show r=.error 10 from by rw [hv0.out];simp [hst])
     all_goals
      go_enter func214,ntmps214
      go_wp2
      go_ret2
      exact ⟨by rw [hv.out];rfl,hw.out⟩
    rotate_right
    focus
     obtain ⟨g1,g2⟩:1≤sw∧sw≤128:=hs.2 rfl rfl
     obtain ⟨n,rfl⟩:=BR (show 0≤sw by omega)
     have hF:=aa (fun W (hW:Below wy.heap.size wy W)=>hfb'.out rfl n (by omega) (by omega) W (hw.out.trans (hW.mono (by omega))))
     simp only at hF hv0
     clear hfa hfb'
     generalize fb (n:Int)=f at hF hv0
     cases f
     have hv:=aa (show r=.error 5 from by rw [hv0.out];simp)
     rotate_right
     have hv:=aa (show r=.ok ⟨(n:Int),false,false⟩ from by rw [hv0.out];simp)
   rotate_right
   focus
    cases tf
    focus
     obtain ⟨g1,g2⟩:1≤tw∧tw≤128:=ht.2 rfl rfl
     obtain ⟨n,rfl⟩:=BR (show 0≤tw by omega)
     have hF:=aa (fun W (hW:Below wy.heap.size wy W)=>hfa.out rfl n (by omega) (by omega) W (hw.out.trans (hW.mono (by omega))))
     simp only at hF hv0
     clear hfa hfb'
     generalize fa (n:Int)=f at hF hv0
     cases f
     have hv:=aa (show r=.error 5 from by rw [hv0.out];simp)
     rotate_right
     have hv:=aa (show r=.ok ⟨(n:Int),false,false⟩ from by rw [hv0.out];simp)
    rotate_right
    focus
     clear hfa hfb'
     have hv:=aa (show r=.error 10 from by rw [hv0.out];simp)
     go_enter func214,ntmps214
     go_wp2
     go_ret2
     exact ⟨by rw [hv.out];rfl,hw.out⟩
  rotate_right
  focus
   clear hfa hfb'
   have hv:=aa (show r=.error 9 from by rw [hv0.out];simp)
   go_enter func214,ntmps214
   go_wp2
   go_ret2
   exact ⟨by rw [hv.out];rfl,hw.out⟩
 rotate_right
 focus
  clear hfa hfb'
  have hv:=aa (show r=.error 9 from by rw [hv0.out];simp)
  go_enter func214,ntmps214
  go_wp2
  go_ret2
  exact ⟨by rw [hv.out];rfl,hw.out⟩
 all_goals
  have hb0:Below wy.heap.size wy wy:=Bi _ _
  have hX:=fun d os=>aa (hF.out _ (aA hb0 (Bm _) d os))
  have hg:=ax hb0 (Bm _)
  clear hb0 hF
  go_enter func214,ntmps214
  go_wp2_with fail
  refine cD ?_
  repeat (any_goals (first|go_big_quiet_step (first|(go_at_call 117;with_reducible exact Bh (hX _ _).out))|quiet_step (first|(go_at_call 117;with_reducible exact Bh (hX _ _).out))))
  refine wpQuiet_nil ?_
  intro w1 hw1
  replace hw1:=ac hw1
  have kb1:=ab hw1
  have q1:=Bg hl1 hw1.size
  have q2:=Bg hl2 hw1.size
  have q3:=Bg hl3 hw1.size
  go_wp2
  go_ret2
  exact ⟨by rw [hv.out];rfl,hw.out.trans (hw1.mono (by omega))⟩
theorem mQ (l:Lt) (n:Nat) (h1:1≤n) (h2:n≤128) (hl:em l) (w:World):
  Calls prog 36 #[.agg #[.int .i64 l.1,.int .u64 l.2.1,.int .u64 l.2.2],.int .i64 (n:Int)] w fun e w'=>e=fq (dI l n)∧Below w.heap.size w w':=by
 obtain ⟨wb,hwb,hsb,hbb,hcb,-⟩:=al w #[.int .i64 l.1,.int .u64 l.2.1,.int .u64 l.2.2] 42
 obtain ⟨y0,y1,y2⟩:=bF hcb
 have hw:=aa hbb
 have hl1:w.heap.size<wb.heap.size:=by omega
 have hF:=aa (ou l n wb hl h1 h2)
 have hv:=aa (show dI l n=if l.1=0∨l.1=n then (if l.1=0 then (if dN n l then .ok () else .error 5) else .ok ()) else .error 10 from rfl)
 generalize dI l n=r at hv
 generalize dN n l=fb at hF hv
 obtain ⟨lw,lh,ll⟩:=l
 simp only at*
 clear hcb hbb hl
 replace hsb:=aa hsb
 by_cases h0:lw=0
 ·replace hv:=aa (show r=(if fb=true then .ok () else .error 5) from hv.out.trans (by rw [if_pos (Or.inl h0),if_pos h0]))
  subst h0
  cases fb with
  |true=>
   go_enter func36,ntmps36
   go_wp2_with (first|(go_at_call 95;refine hF.out.mono ?_;rintro e w1 ⟨rfl,hb1⟩)|(go_at_call 27;refine (aP _ _).mono ?_;rintro e w' ⟨rfl,rfl⟩))
   go_end0
   exact ⟨by rw [hv.out];rfl,hw.out.trans (hb1.mono (by omega))⟩
  |false=>
   go_enter func36,ntmps36
   go_wp2_with (first|(go_at_call 95;refine hF.out.mono ?_;rintro e w1 ⟨rfl,hb1⟩)|(go_at_call 27;first|(with_reducible refine (aP _ _).mono ?_;rintro e w' ⟨rfl,rfl⟩)|(with_reducible refine (bJ _ _).mono ?_;rintro e w' ⟨rfl,rfl⟩)))
   exact ⟨rfl,by rw [hv.out];rfl,hw.out.trans (hb1.mono (by omega))⟩
 ·have h0q:(lw==0)=false:=beq_eq_false_iff_ne.2 h0
  have h0n:(lw !=0)=true:=bne_iff_ne.2 h0
  by_cases hn:lw=(n:Int)
  ·replace hv:=aa (show r=.ok () from hv.out.trans (by rw [if_pos (Or.inr hn),if_neg h0]))
   have hnq:(lw==(n:Int))=true:=beq_iff_eq.2 hn
   clear hn
   go_enter func36,ntmps36
   go_wp2_with (go_at_call 27;refine (aP _ _).mono ?_;rintro e w' ⟨rfl,rfl⟩)
   go_end0
   exact ⟨by rw [hv.out];rfl,hw.out⟩
  ·replace hv:=aa (show r=.error 10 from hv.out.trans (by rw [if_neg (fun h=>h.elim h0 hn)]))
   have hnq:(lw==(n:Int))=false:=beq_eq_false_iff_ne.2 hn
   go_enter func36,ntmps36
   go_wp2_with (go_at_call 27;refine (bJ _ _).mono ?_;rintro e w' ⟨rfl,rfl⟩)
   exact ⟨rfl,by rw [hv.out];rfl,hw.out⟩
theorem oH (A1 A2 A3 A4 A5 A6 A7:Option Addr) (p:Pg) (c1 c2 c3 c4 c5 c6 c7:Nat) (act:Int) (B:Nat) (hm:bg p=true) (e:Ex) (he:aT e=true) (n:Nat) (h1:1≤n) (h2:n≤128) (cs:List Value) (w:World) (hB:B≤w.heap.size) (hP:bu w B A1 A2 A3 A4 A5 A6 A7 p) (h:dL w B cs e):
  Calls prog 96 #[.agg (dw p A1 A2 A3 A4 A5 A6 A7 c1 c2 c3 c4 c5 c6 c7 act),.agg cs.toArray,.int .i64 (n:Int)] w fun r w'=>r=fq (dE p act e n)∧Below w.heap.size w w':=by
 unfold dw
 have hX0:=aa (fun (W:World) (hb:Below w.heap.size w W)=>ip A1 A2 A3 A4 A5 A6 A7 p c1 c2 c3 c4 c5 c6 c7 act B hm e he cs W (Bj hB hb.size) (hP.below (hb.mono hB)) (ai.keep h fun q hq=>(hb.mono hB).cell hq))
 have hF0:=aa (fun (W:World) (hb:Below w.heap.size w W)=>im n h1 h2 e cs W B (Bj hB hb.size) (ai.keep h fun q hq=>(hb.mono hB).cell hq))
 have hv0:=aa (show dE p act e n=(match bI p act e with| .error n=>.error n| .ok t=>if t.truth then .error 9 else if t.free then (if bB n e then .ok () else .error 5) else if t.w=n then .ok () else .error 10) from rfl)
 generalize dE p act e n=r at hv0
 generalize bI p act e=ra at hX0 hv0
 generalize bB n e=fe at hF0 hv0
 obtain ⟨op,lit,head,name,hi,lo,args⟩:=e
 obtain ⟨A,cap,rfl,-,-,-,-,-,-,hs⟩:=RE.inv h
 have hl:=hs.len
 clear h hs he
 show Calls _ _ #[.agg #[.slice A1 p.headers.length c1,.slice A2 p.metas.length c2,.slice A3 p.states.length c3,.slice A4 p.actions.length c4,.slice A5 p.tables.length c5,.slice A6 p.control.length c6,.slice A7 p.emit.length c7,.int .i64 act],.agg #[.int .u8 op,.int .i64 lit.1,.int .u64 lit.2.1,.int .u64 lit.2.2,.string head,.string name,.int .i64 hi,.int .i64 lo,.slice A args.length cap],_] _ _
 obtain ⟨wv,hwv,hsv,wz,hwz,hsz,hw,cv,cz,hfr,hl1,hl2⟩:=kM w (dw p A1 A2 A3 A4 A5 A6 A7 c1 c2 c3 c4 c5 c6 c7 act) 88 (aO op lit head name hi lo A args.length cap) 45
 obtain ⟨v0,v1,v2,v3,v4,v5,v6,v7⟩:=fs cv
 obtain ⟨z0,z1,z2,z3,z4,z5,z6,z7,z8⟩:=bU cz
 clear cv cz
 have hX:=aa (show Calls prog 29 #[.agg (dw p A1 A2 A3 A4 A5 A6 A7 c1 c2 c3 c4 c5 c6 c7 act),.agg (aO op lit head name hi lo A args.length cap)] wz _ from hX0.out wz hw.out)
 have hF:Hid (∀ W,Below w.heap.size w W→Calls prog 97 #[.agg (aO op lit head name hi lo A args.length cap),.int .i64 (n:Int)] W _):=hF0
 clear hX0 hF0 hP
 cases ra with
 |error n7=>
  replace hX:=aa (show Calls prog _ _ wz fun e w'=>e=ji n7∧Below wz.heap.size wz w' from hX.out)
  go_enter func96,ntmps96
  go_wp2_with (go_at_call 29;refine hX.out.mono ?_;rintro e w3 ⟨rfl,hb3⟩)
  exact ⟨rfl,by rw [hv0.out];rfl,hw.out.trans (hb3.mono (by omega))⟩
 |ok t=>
  obtain ⟨tw,tr,tf⟩:=t
  replace hX:=aa (show Calls prog _ _ wz fun e w'=>e=.returned (.agg #[.int .i64 tw,.bool tr,.bool tf])∧Below wz.heap.size wz w' from hX.out)
  have hv:=aa (show r=if tr then .error 9 else if tf then (if fe then .ok () else .error 5) else if tw=n then .ok () else .error 10 from hv0.out)
  clear hv0
  cases tr with
  |true=>
   go_enter func96,ntmps96
   go_wp2_with (first|(go_at_call 27;with_reducible refine (bJ _ _).mono ?_;rintro e w' ⟨rfl,rfl⟩)|(go_at_call 29;refine hX.out.mono ?_;rintro e w3 ⟨rfl,hb3⟩;have kb3:=ab hb3;have q3:=Bg hl1 hb3.size;have q4:=Bg hl2 hb3.size))
   exact ⟨rfl,by rw [hv.out];rfl,hw.out.trans ((hb3.alloc hb3.size _).mono (by omega))⟩
  |false=>
   cases tf with
   |true=>
    cases fe with
    |true=>
     go_enter func96,ntmps96
     go_wp2_with (first|(go_at_call 27;with_reducible refine (aP _ _).mono ?_;rintro e w' ⟨rfl,rfl⟩)|(go_at_call 97;refine (hF.out _ (hw.out.trans ((hb3.alloc hb3.size _).mono (by omega)))).mono ?_;rintro e w6 ⟨rfl,hb6⟩)|(go_at_call 29;refine hX.out.mono ?_;rintro e w3 ⟨rfl,hb3⟩;have kb3:=ab hb3;have q3:=Bg hl1 hb3.size;have q4:=Bg hl2 hb3.size))
     (try simp only [Exit.inBlock,Exit.then])
     refine bodyPost_ret (results_none rfl _ _ _) rfl ?_
     exact ⟨by rw [hv.out];rfl,hw.out.trans (((hb3.alloc hb3.size _).trans (hb6.mono (hb3.alloc hb3.size _).size)).mono (by omega))⟩
    |false=>
     go_enter func96,ntmps96
     go_wp2_with (first|(go_at_call 27;first|(with_reducible refine (aP _ _).mono ?_;rintro e w' ⟨rfl,rfl⟩)|(with_reducible refine (bJ _ _).mono ?_;rintro e w' ⟨rfl,rfl⟩))|(go_at_call 97;refine (hF.out _ (hw.out.trans ((hb3.alloc hb3.size _).mono (by omega)))).mono ?_;rintro e w6 ⟨rfl,hb6⟩)|(go_at_call 29;refine hX.out.mono ?_;rintro e w3 ⟨rfl,hb3⟩;have kb3:=ab hb3;have q3:=Bg hl1 hb3.size;have q4:=Bg hl2 hb3.size))
     exact ⟨rfl,by rw [hv.out];rfl,hw.out.trans (((hb3.alloc hb3.size _).trans (hb6.mono (hb3.alloc hb3.size _).size)).mono (by omega))⟩
   |false=>
    by_cases hn:tw=(n:Int)
    ·have hnq:(tw==(n:Int))=true:=beq_iff_eq.2 hn
     have hv2:=aa (show r=.ok () from hv.out.trans (if_pos hn))
     clear hn
     go_enter func96,ntmps96
     go_wp2_with (first|(go_at_call 27;with_reducible refine (aP _ _).mono ?_;rintro e w' ⟨rfl,rfl⟩)|(go_at_call 29;refine hX.out.mono ?_;rintro e w3 ⟨rfl,hb3⟩;have kb3:=ab hb3;have q3:=Bg hl1 hb3.size;have q4:=Bg hl2 hb3.size))
     go_end0
     exact ⟨by rw [hv2.out];rfl,hw.out.trans ((hb3.alloc hb3.size _).mono (by omega))⟩
    ·have hnq:(tw==(n:Int))=false:=beq_eq_false_iff_ne.2 hn
     have hv2:=aa (show r=.error 10 from hv.out.trans (if_neg hn))
     go_enter func96,ntmps96
     go_wp2_with (first|(go_at_call 27;first|(with_reducible refine (aP _ _).mono ?_;rintro e w' ⟨rfl,rfl⟩)|(with_reducible refine (bJ _ _).mono ?_;rintro e w' ⟨rfl,rfl⟩))|(go_at_call 29;refine hX.out.mono ?_;rintro e w3 ⟨rfl,hb3⟩;have kb3:=ab hb3;have q3:=Bg hl1 hb3.size;have q4:=Bg hl2 hb3.size))
     exact ⟨rfl,by rw [hv2.out];rfl,hw.out.trans ((hb3.alloc hb3.size _).mono (by omega))⟩
end Go.Proofs.YtbbdhknagofghaaGreat

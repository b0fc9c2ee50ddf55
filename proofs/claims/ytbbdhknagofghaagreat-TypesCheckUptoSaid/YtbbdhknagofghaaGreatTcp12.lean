import Derived.RegionDies
import Derived.Test.YtbbdhknagofghaaGreatTcp11
set_option linter.all false
set_option maxHeartbeats 16000000
set_option maxRecDepth 100000
open Go.Proofs.Tryz
namespace Go.Proofs.YtbbdhknagofghaaGreat
open _root_.Nat renaming lt_of_lt_of_le→Bg, le_trans→Bj, le_refl→Bm
open _root_.Go.Calls renaming regrown_of→Bh
open _root_.Go.RowKit.Below renaming refl→Bi
open _root_.Bool renaming and_eq_true→Bn
open _root_.List renaming all_eq_true→Bw, take_zero→Bz, take_succ_cons→BE, mem_cons→BI, mem_cons_of_mem→BT, mem_cons_self→BW, drop_succ_cons→BY
open _root_.Array renaming getElem?_eq_none→B8
open Go.RowKit
section
attribute [local go_sem] fZ eF ev
theorem qJ (A1 A2 A3 A4 A5 A6 A7:Option Addr) (p:Pg) (c1 c2 c3 c4 c5 c6 c7:Nat) (act:Int) (B:Nat) (op:Int) (lit:Lt) (head name:ByteArray) (hi lo:Int) (a b:Ex) (l:List Ex) (sw:Int) (sr sf:Bool) (hra:bI p act a=.ok ⟨sw,sr,sf⟩) (tw:Int) (tr tf:Bool) (hrb:bI p act b=.ok ⟨tw,tr,tf⟩) (hsk:cV ⟨sw,sr,sf⟩) (htk:cV ⟨tw,tr,tf⟩) (hop:op=11) (ih:gN A1 A2 A3 A4 A5 A6 A7 p c1 c2 c3 c4 c5 c6 c7 act B a) (ih2:gN A1 A2 A3 A4 A5 A6 A7 p c1 c2 c3 c4 c5 c6 c7 act B b) (cs:List Value) (w:World) (hB:B≤w.heap.size) (hP:bu w B A1 A2 A3 A4 A5 A6 A7 p) (h:dL w B cs (.mk op lit head name hi lo (a::b::l))):
  Calls prog 29 #[.agg (dw p A1 A2 A3 A4 A5 A6 A7 c1 c2 c3 c4 c5 c6 c7 act),.agg cs.toArray] w fun r w'=>r=fB (cI op a b ⟨sw,sr,sf⟩ ⟨tw,tr,tf⟩)∧Below w.heap.size w w':=by
 unfold dw
 obtain ⟨A,cap,rfl,-,-,-,-,-,-,hs⟩:=RE.inv h
 have hl:=hs.len
 clear h
 have hm2:2≤(a::b::l).length:=by simp
 generalize hml:(a::b::l).length=m at hl hm2
 clear hml
 have hmz0:((m:Int)==0)=false:=beq_eq_false_iff_ne.2 (by omega)
 have hmz1:((m:Int)==1)=false:=beq_eq_false_iff_ne.2 (by omega)
 have hmi0:(0:Int)<(m:Int):=by omega
 have hmi1:(1:Int)<(m:Int):=by omega
 have hmn0:0<m:=by omega
 have hmn1:1<m:=by omega
 show Calls _ _ #[.agg #[.slice A1 p.headers.length c1,.slice A2 p.metas.length c2,.slice A3 p.states.length c3,.slice A4 p.actions.length c4,.slice A5 p.tables.length c5,.slice A6 p.control.length c6,.slice A7 p.emit.length c7,.int .i64 act],.agg #[.int .u8 op,.int .i64 lit.1,.int .u64 lit.2.1,.int .u64 lit.2.2,.string head,.string name,.int .i64 hi,.int .i64 lo,.slice A m cap]] _ _
 obtain ⟨wv,hwv,hsv,we,hwe,hse,wz,hwz,hsz,hw,cv,ce,cz,hfr,hl1,hl2,hl3⟩:=ql w (dw p A1 A2 A3 A4 A5 A6 A7 c1 c2 c3 c4 c5 c6 c7 act) 88 (aO op lit head name hi lo A m cap) 45 #[.int .i64 0,.bool false,.bool false] 75
 obtain ⟨v0,v1,v2,v3,v4,v5,v6,v7⟩:=fs cv
 obtain ⟨e0,e1,e2,e3,e4,e5,e6,e7,e8⟩:=bU ce
 obtain ⟨z0,z1,z2⟩:=bF cz
 clear cv ce cz
 have hBz:B≤wz.heap.size:=by omega
 have hPz:=hP.below (hw.out.mono hB)
 have hSz:=hs.below ai (hw.out.mono hB)
 clear hP hs
 obtain ⟨g,o,ecs,hA,hbb,hel,hcell,hr⟩:=hSz.2 0 a rfl
 obtain ⟨g',o',ecs',hA',hbb',hel',hcell',hr'⟩:=hSz.2 1 b rfl
 subst hA
 obtain ⟨rfl,rfl⟩:g=g'∧o=o':=by simpa using hA'
 have hX:=aa (fun (W:World) (hb:Below wz.heap.size wz W)=>ih ecs W (Bj hBz hb.size) (hPz.below (hb.mono hBz)) (ai.keep hr fun q hq=>(hb.mono hBz).cell hq))
 have hY:=aa (fun (W:World) (hb:Below wz.heap.size wz W)=>ih2 ecs' W (Bj hBz hb.size) (hPz.below (hb.mono hBz)) (ai.keep hr' fun q hq=>(hb.mono hBz).cell hq))
 have hJ:=aa (fun (W:World) (hb:Below wz.heap.size wz W) (s t:Ty) (hs:cV s) (ht:cV t)=>dA a b ecs ecs' s t B W (Bj hBz hb.size) (ai.keep hr fun q hq=>(hb.mono hBz).cell hq) (ai.keep hr' fun q hq=>(hb.mono hBz).cell hq) hs ht)
 obtain ⟨opa,lita,heada,namea,hia,loa,argsa⟩:=a
 obtain ⟨Aa,capa,rfl,-,-,-,-,-,-,hsa'⟩:=RE.inv hr
 have la:=hsa'.len
 obtain ⟨opb,litb,headb,nameb,hib,lob,argsb⟩:=b
 obtain ⟨Ab,capb,rfl,-,-,-,-,-,-,hsb'⟩:=RE.inv hr'
 have lb:=hsb'.len
 obtain ⟨x0,x1,x2,x3,x4,x5,x6,x7,x8⟩:=cl hcell
 obtain ⟨y0,y1,y2,y3,y4,y5,y6,y7,y8⟩:=cl hcell'
 simp only [Nat.zero_mul,Nat.add_zero,Nat.one_mul] at x0 x1 x2 x3 x4 x5 x6 x7 x8 y0 y1 y2 y3 y4 y5 y6 y7 y8
 have hbw:g<wz.heap.size:=by omega
 change Hid (∀ W hb,Calls _ _ #[_,.agg (aO opa lita heada namea hia loa Aa argsa.length capa)] W _) at hX
 change Hid (∀ W hb,Calls _ _ #[_,.agg (aO opb litb headb nameb hib lob Ab argsb.length capb)] W _) at hY
 change Hid (∀ W hb s t hs ht,Calls _ _ #[.agg (aO opa lita heada namea hia loa Aa argsa.length capa),.agg (aO opb litb headb nameb hib lob Ab argsb.length capb),_,_] W _) at hJ
 clear hcell hcell' hr hr' hsa' hsb' hel hel' ih ih2 hSz hPz
 subst hop
 have hv:=aa (show cI 11 (.mk opa lita heada namea hia loa argsa) (.mk opb litb headb nameb hib lob argsb) ⟨sw,sr,sf⟩ ⟨tw,tr,tf⟩=(if sr then .error 9 else if sf then .error 10 else if tr then .error 9 else if tf then .error 10 else if sw+tw≤128 then .ok ⟨sw+tw,false,false⟩ else .error 5) from by unfold cI;rw [if_pos rfl])
 generalize cI 11 _ _ _ _=r at hv
 have hfs:∀ W:World,(Instr.field 75 (.agg #[.int .i64 sw,.bool sr,.bool sf]) 0).run prog W=.ok (.int .i64 sw) W:=fun _=>by kernel_rfl
 have hft:∀ W:World,(Instr.field 75 (.agg #[.int .i64 tw,.bool tr,.bool tf]) 0).run prog W=.ok (.int .i64 tw) W:=fun _=>by kernel_rfl
 replace hX:=aa (show ∀ W,Below wz.heap.size wz W→Calls prog _ #[_,.agg (aO opa lita heada namea hia loa Aa argsa.length capa)] W fun e w'=>e=.returned (.agg #[.int .i64 sw,.bool sr,.bool sf])∧Below wz.heap.size wz w'∧Below W.heap.size W w' from fun W hb=>(hX.out W hb).mono fun e w' h=>⟨h.1.trans (by rw [hra];rfl),hb.trans (h.2.mono hb.size),h.2⟩)
 clear hJ
 go_enter func29,ntmps29
 go_upto_region 3 with fail
 go_cut [5] (fun sp wx=>∃ g,sp=.pointer (some ⟨g,0,none⟩)∧Hid (bZ wz wx g sw sr sf))
 case first=>
  refine aN 5 (w2:=wz.drew.alloc (.cells #[.int .i64 0,.bool false,.bool false] 75)) (vf:=.pointer (some ⟨wz.heap.size,0,none⟩)) (by kernel_rfl) (by kernel_rfl) rfl (fun _=>rfl) (fun _=>by go_simp) ?_
  simp only [BE,Bz]
  repeat (refine bL (fun K hK=> ?_);go_simp;refine hK _ ?_;clear hK K)
  refine cm ⟨?_,?_⟩
  ·go_wp2_with (go_at_call 29;refine (hX.out _ (by exact (Bi _ _).drew)).mono ?_;rintro e w3 ⟨rfl,hb3,hb4⟩)
   go_meet
   exact ⟨_,rfl,aa (bZ.new hb3 _ _ _)⟩
  ·go_wp2_with (go_at_call 29;refine (hX.out _ (by exact (Bi _ _).drew.alloc (Bm _) _)).mono ?_;rintro e w3 ⟨rfl,hb3,hb4⟩;have kb4:=cM hb4)
   go_meet
   exact ⟨_,rfl,aa (bZ.set rfl hb3 hb4 _ _ _)⟩
 case rest=>
  obtain ⟨gs,rfl,hTs⟩:=hcut
  obtain ⟨wd,rfl⟩:∃ wd:World,wd=wc:=⟨_,rfl⟩
  obtain ⟨hbwd,gzs,gls,s0,s1,s2⟩:=hTs.out
  have kwd:=ab hbwd
  have qwd1:=Bg hl1 hbwd.size
  have qwd2:=Bg hl2 hbwd.size
  have qwd3:=Bg hl3 hbwd.size
  have qwd4:=Bg hbw hbwd.size
  clear hX
  replace hY:=aa (show ∀ W,Below wd.heap.size wd W→Calls prog _ #[_,.agg (aO opb litb headb nameb hib lob Ab argsb.length capb)] W fun e w'=>e=.returned (.agg #[.int .i64 tw,.bool tr,.bool tf])∧Below wd.heap.size wd w'∧Below W.heap.size W w' from fun W hb=>(hY.out W (hbwd.trans (hb.mono hbwd.size))).mono fun e w' h=>⟨h.1.trans (by rw [hrb];rfl),hb.trans (h.2.mono hb.size),h.2⟩)
  go_upto_region 8 with fail
  go_cut [6] (fun sp wx=>∃ g,sp=.pointer (some ⟨g,0,none⟩)∧Hid (bZ wd wx g tw tr tf))
  case first=>
   refine aN 5 (w2:=wd.drew.alloc (.cells #[.int .i64 0,.bool false,.bool false] 75)) (vf:=.pointer (some ⟨wd.heap.size,0,none⟩)) (by kernel_rfl) (by kernel_rfl) rfl (fun _=>rfl) (fun _=>by go_simp) ?_
   simp only [BE,Bz]
   repeat (refine bL (fun K hK=> ?_);go_simp;refine hK _ ?_;clear hK K)
   refine cm ⟨?_,?_⟩
   ·go_wp2_with (go_at_call 29;refine (hY.out _ (by exact (Bi _ _).drew)).mono ?_;rintro e w3 ⟨rfl,hb3,hb4⟩)
    go_meet
    exact ⟨_,rfl,aa (bZ.new hb3 _ _ _)⟩
   ·go_wp2_with (go_at_call 29;refine (hY.out _ (by exact (Bi _ _).drew.alloc (Bm _) _)).mono ?_;rintro e w3 ⟨rfl,hb3,hb4⟩;have kb4:=cM hb4)
    go_meet
    exact ⟨_,rfl,aa (bZ.set rfl hb3 hb4 _ _ _)⟩
  case rest=>
   obtain ⟨gt,rfl,hTt⟩:=hcut
   obtain ⟨wt,rfl⟩:∃ wt:World,wt=wc:=⟨_,rfl⟩
   obtain ⟨hbwt,gzt,glt,t0,t1,t2⟩:=hTt.out
   have hbE:=hbwd.trans (hbwt.mono hbwd.size)
   have kwt:=ab hbE
   have qwt1:=Bg hl1 hbE.size
   have qwt2:=Bg hl2 hbE.size
   have qwt3:=Bg hl3 hbE.size
   have qwt4:=Bg hbw hbE.size
   have qwt5:=Bg gls hbwt.size
   have s0':=(hbwt.cell (p:=⟨gs,0,none⟩) gls).trans s0
   have s1':=(hbwt.cell (p:=⟨gs,1,none⟩) gls).trans s1
   have s2':=(hbwt.cell (p:=⟨gs,2,none⟩) gls).trans s2
   clear hY s0 s1 s2 kwd qwd1 qwd2 qwd3 qwd4
   cases sr with
   |true=>
    go_wp2_with fail
    go_region_dies
    all_goals
     refine (ff _ _ _).mono ?_
     rintro e w5 ⟨rfl,hb5⟩
     exact ⟨rfl,by rw [hv.out];rfl,hw.out.trans ((hbE.trans ((show Below wt.heap.size wt w5 from by first|exact hb5|exact (Bi _ _).drew.trans (hb5.mono (Bm _))).mono hbE.size)).mono (by omega))⟩
   |false=>
    cases sf with
    |true=>
     go_wp2_with fail
     go_region_dies
     all_goals
      refine (fg _ _).mono ?_
      rintro e w5 ⟨rfl,hb5⟩
      exact ⟨rfl,by rw [hv.out];rfl,hw.out.trans ((hbE.trans ((show Below wt.heap.size wt w5 from by first|exact hb5|exact (Bi _ _).drew.trans (hb5.mono (Bm _))).mono hbE.size)).mono (by omega))⟩
    |false=>
     cases tr with
     |true=>
      go_wp2_with fail
      refine wp_region_any (by kernel_rfl) ?_
      try (change wpAny _ _ _ _ _ _ _ (World.drew _))
      refine wpAny_ready (rs:= [0,3]) (by kernel_rfl) (by simp) ?_
      refine AllReady.cons rfl (fun K hK=> ?_) ?_
      ·go_simp
       refine hK _ _ ?_
       clear hK K
       refine wpAny_ready (rs:= [1,3]) (by kernel_rfl) (by simp) ?_
       refine AllReady.cons rfl (fun K hK=> ?_) ?_
       ·go_simp
        refine (dg _ _).mono ?_
        rintro e w5 ⟨rfl,hb5⟩
        have hb5':=(show Below wt.heap.size wt w5 from (Bi _ _).drew.trans (hb5.mono (Bm _)))
        have kb5:=ab hb5'
        have qb5:=Bg glt hb5'.size
        refine hK _ _ ?_
        clear hK K
        refine wpAny_take (i:=2) (v:=.int .i64 sw) rfl (by kernel_rfl) (by kernel_rfl) (by kernel_rfl) (fun _ _ _ h=>h) (Or.inl ⟨by rfl,?_⟩) ?_
        ·intro w
         go_simp
        refine wpAny_ready (rs:= [3]) (by kernel_rfl) (by simp) ?_
        refine AllReady.cons rfl (fun K hK=> ?_) ?_
        ·go_simp
         refine hK _ _ ?_
         clear hK K
         refine wpAny_ready (rs:= [4]) (by kernel_rfl) (by simp) ?_
         refine AllReady.cons rfl (fun K hK=> ?_) ?_
         ·go_simp
          refine (ff _ _ _).mono ?_
          rintro e w6 ⟨rfl,hb6⟩
          exact ⟨rfl,by rw [hv.out];rfl,hw.out.trans ((hbE.trans ((hb5'.trans (hb6.mono hb5'.size)).mono hbE.size)).mono (by omega))⟩
         exact AllReady.nil
        exact AllReady.nil
       refine AllReady.cons rfl (fun K hK=> ?_) ?_
       ·go_simp
        refine hK _ _ ?_
        clear hK K
        refine wpAny_ready (rs:= [1]) (by kernel_rfl) (by simp) ?_
        refine AllReady.cons rfl (fun K hK=> ?_) ?_
        ·go_simp
         refine (dg _ _).mono ?_
         rintro e w5 ⟨rfl,hb5⟩
         have hb5':=(show Below wt.heap.size wt w5 from (Bi _ _).drew.trans (hb5.mono (Bm _)))
         have kb5:=ab hb5'
         have qb5:=Bg glt hb5'.size
         refine hK _ _ ?_
         clear hK K
         refine wpAny_take (i:=2) (v:=.int .i64 sw) rfl (by kernel_rfl) (by kernel_rfl) (by kernel_rfl) (fun _ _ _ h=>h) (Or.inl ⟨by rfl,?_⟩) ?_
         ·intro w
          go_simp
         refine wpAny_ready (rs:= [4]) (by kernel_rfl) (by simp) ?_
         refine AllReady.cons rfl (fun K hK=> ?_) ?_
         ·go_simp
          refine (ff _ _ _).mono ?_
          rintro e w6 ⟨rfl,hb6⟩
          exact ⟨rfl,by rw [hv.out];rfl,hw.out.trans ((hbE.trans ((hb5'.trans (hb6.mono hb5'.size)).mono hbE.size)).mono (by omega))⟩
         exact AllReady.nil
        exact AllReady.nil
       exact AllReady.nil
      refine AllReady.cons rfl (fun K hK=> ?_) ?_
      ·go_simp
       refine hK _ _ ?_
       clear hK K
       refine wpAny_ready (rs:= [0]) (by kernel_rfl) (by simp) ?_
       refine AllReady.cons rfl (fun K hK=> ?_) ?_
       ·go_simp
        refine hK _ _ ?_
        clear hK K
        refine wpAny_ready (rs:= [1]) (by kernel_rfl) (by simp) ?_
        refine AllReady.cons rfl (fun K hK=> ?_) ?_
        ·go_simp
         refine (dg _ _).mono ?_
         rintro e w5 ⟨rfl,hb5⟩
         have hb5':=(show Below wt.heap.size wt w5 from (Bi _ _).drew.trans (hb5.mono (Bm _)))
         have kb5:=ab hb5'
         have qb5:=Bg glt hb5'.size
         refine hK _ _ ?_
         clear hK K
         refine wpAny_take (i:=2) (v:=.int .i64 sw) rfl (by kernel_rfl) (by kernel_rfl) (by kernel_rfl) (fun _ _ _ h=>h) (Or.inl ⟨by rfl,?_⟩) ?_
         ·intro w
          go_simp
         refine wpAny_ready (rs:= [4]) (by kernel_rfl) (by simp) ?_
         refine AllReady.cons rfl (fun K hK=> ?_) ?_
         ·go_simp
          refine (ff _ _ _).mono ?_
          rintro e w6 ⟨rfl,hb6⟩
          exact ⟨rfl,by rw [hv.out];rfl,hw.out.trans ((hbE.trans ((hb5'.trans (hb6.mono hb5'.size)).mono hbE.size)).mono (by omega))⟩
         exact AllReady.nil
        exact AllReady.nil
       exact AllReady.nil
      exact AllReady.nil
     |false=>
      cases tf with
      |true=>
       go_wp2_with fail
       refine wp_region_any (by kernel_rfl) ?_
       try (change wpAny _ _ _ _ _ _ _ (World.drew _))
       refine wpAny_ready (rs:= [0,3]) (by kernel_rfl) (by simp) ?_
       refine AllReady.cons rfl (fun K hK=> ?_) ?_
       ·go_simp
        refine hK _ _ ?_
        clear hK K
        refine wpAny_ready (rs:= [1,3]) (by kernel_rfl) (by simp) ?_
        refine AllReady.cons rfl (fun K hK=> ?_) ?_
        ·go_simp
         refine (dg _ _).mono ?_
         rintro e w5 ⟨rfl,hb5⟩
         have hb5':=(show Below wt.heap.size wt w5 from (Bi _ _).drew.trans (hb5.mono (Bm _)))
         have kb5:=ab hb5'
         have qb5:=Bg glt hb5'.size
         refine hK _ _ ?_
         clear hK K
         refine wpAny_take (i:=2) (v:=.int .i64 sw) rfl (by kernel_rfl) (by kernel_rfl) (by kernel_rfl) (fun _ _ _ h=>h) (Or.inl ⟨by rfl,?_⟩) ?_
         ·intro w
          go_simp
         refine wpAny_ready (rs:= [3]) (by kernel_rfl) (by simp) ?_
         refine AllReady.cons rfl (fun K hK=> ?_) ?_
         ·go_simp
          refine hK _ _ ?_
          clear hK K
          refine wpAny_ready (rs:= [4]) (by kernel_rfl) (by simp) ?_
          refine AllReady.cons rfl (fun K hK=> ?_) ?_
          ·go_simp
           refine (fg _ _).mono ?_
           rintro e w6 ⟨rfl,hb6⟩
           exact ⟨rfl,by rw [hv.out];rfl,hw.out.trans ((hbE.trans ((hb5'.trans (hb6.mono hb5'.size)).mono hbE.size)).mono (by omega))⟩
          exact AllReady.nil
         exact AllReady.nil
        refine AllReady.cons rfl (fun K hK=> ?_) ?_
        ·go_simp
         refine hK _ _ ?_
         clear hK K
         refine wpAny_ready (rs:= [1]) (by kernel_rfl) (by simp) ?_
         refine AllReady.cons rfl (fun K hK=> ?_) ?_
         ·go_simp
          refine (dg _ _).mono ?_
          rintro e w5 ⟨rfl,hb5⟩
          have hb5':=(show Below wt.heap.size wt w5 from (Bi _ _).drew.trans (hb5.mono (Bm _)))
          have kb5:=ab hb5'
          have qb5:=Bg glt hb5'.size
          refine hK _ _ ?_
          clear hK K
          refine wpAny_take (i:=2) (v:=.int .i64 sw) rfl (by kernel_rfl) (by kernel_rfl) (by kernel_rfl) (fun _ _ _ h=>h) (Or.inl ⟨by rfl,?_⟩) ?_
          ·intro w
           go_simp
          refine wpAny_ready (rs:= [4]) (by kernel_rfl) (by simp) ?_
          refine AllReady.cons rfl (fun K hK=> ?_) ?_
          ·go_simp
           refine (fg _ _).mono ?_
           rintro e w6 ⟨rfl,hb6⟩
           exact ⟨rfl,by rw [hv.out];rfl,hw.out.trans ((hbE.trans ((hb5'.trans (hb6.mono hb5'.size)).mono hbE.size)).mono (by omega))⟩
          exact AllReady.nil
         exact AllReady.nil
        exact AllReady.nil
       refine AllReady.cons rfl (fun K hK=> ?_) ?_
       ·go_simp
        refine hK _ _ ?_
        clear hK K
        refine wpAny_ready (rs:= [0]) (by kernel_rfl) (by simp) ?_
        refine AllReady.cons rfl (fun K hK=> ?_) ?_
        ·go_simp
         refine hK _ _ ?_
         clear hK K
         refine wpAny_ready (rs:= [1]) (by kernel_rfl) (by simp) ?_
         refine AllReady.cons rfl (fun K hK=> ?_) ?_
         ·go_simp
          refine (dg _ _).mono ?_
          rintro e w5 ⟨rfl,hb5⟩
          have hb5':=(show Below wt.heap.size wt w5 from (Bi _ _).drew.trans (hb5.mono (Bm _)))
          have kb5:=ab hb5'
          have qb5:=Bg glt hb5'.size
          refine hK _ _ ?_
          clear hK K
          refine wpAny_take (i:=2) (v:=.int .i64 sw) rfl (by kernel_rfl) (by kernel_rfl) (by kernel_rfl) (fun _ _ _ h=>h) (Or.inl ⟨by rfl,?_⟩) ?_
          ·intro w
           go_simp
          refine wpAny_ready (rs:= [4]) (by kernel_rfl) (by simp) ?_
          refine AllReady.cons rfl (fun K hK=> ?_) ?_
          ·go_simp
           refine (fg _ _).mono ?_
           rintro e w6 ⟨rfl,hb6⟩
           exact ⟨rfl,by rw [hv.out];rfl,hw.out.trans ((hbE.trans ((hb5'.trans (hb6.mono hb5'.size)).mono hbE.size)).mono (by omega))⟩
          exact AllReady.nil
         exact AllReady.nil
        exact AllReady.nil
       exact AllReady.nil
      |false=>
       have es:=hsk.2 rfl rfl
       have et:=htk.2 rfl rfl
       simp only at es et
       obtain ⟨es1,es2⟩:=es
       obtain ⟨et1,et2⟩:=et
       have hg:=ax (Bi wt.heap.size wt) (Bm _)
       go_wp2_with fail
       refine cD ?_
       repeat (any_goals (first|go_big_quiet_step (first|(go_at_call 35;with_reducible exact Bh (dg _ _)))|quiet_step (first|(go_at_call 35;with_reducible exact Bh (dg _ _)))))
       refine wpQuiet_nil ?_
       intro w5 hw5
       replace hw5:=ac hw5
       have hb5:=hbE.trans (hw5.mono hbE.size)
       have kw5:=ab hb5
       have qw1:=Bg hl1 hb5.size
       have qw2:=Bg hl2 hb5.size
       have qw3:=Bg hl3 hb5.size
       clear hg kwt qwt1 qwt2 qwt3 qwt4 qwt5
       by_cases hlt:sw+tw≤128
       ·have hrr:=aa (show (if sw+tw≤128 then (Except.ok ⟨sw+tw,false,false⟩:Rs Ty) else .error 5)=.ok ⟨sw+tw,false,false⟩ from if_pos hlt)
        go_wp2_with (go_at_call 27;refine (aP _ _).mono ?_;rintro e w7 ⟨rfl,rfl⟩)
        have hbF:=hb5
        have k0:=(hbF.cell (p:=⟨w.heap.size+1+1,0,none⟩) hl3).trans z0
        have k1:=(hbF.cell (p:=⟨w.heap.size+1+1,1,none⟩) hl3).trans z1
        have k2:=(hbF.cell (p:=⟨w.heap.size+1+1,2,none⟩) hl3).trans z2
        refine bodyPost_ret (v:=.agg #[.int .i64 (sw+tw),.bool false,.bool false]) (by simp [results,results29,go_sem,k0,k1,k2]) rfl ⟨by rw [hv.out];exact congrArg fB hrr.out.symm,?_⟩
        exact ad (hw.out.trans (hbF.mono (by omega))) (by omega) _ _ _
       ·have hlq:decide (sw+tw≤128)=false:=decide_eq_false hlt
        have hrr:=aa (show (if sw+tw≤128 then (Except.ok ⟨sw+tw,false,false⟩:Rs Ty) else .error 5)=.error 5 from if_neg hlt)
        go_wp2_with (go_at_call 27;refine (bJ _ _).mono ?_;rintro e w7 ⟨rfl,rfl⟩)
        exact ⟨rfl,by rw [hv.out];exact congrArg fB hrr.out.symm,hw.out.trans (hb5.mono (by omega))⟩
end
theorem ud (A1 A2 A3 A4 A5 A6 A7:Option Addr) (p:Pg) (c1 c2 c3 c4 c5 c6 c7:Nat) (act:Int) (B:Nat) (hm:dz p=true) (e:Ex):aT e=true→gN A1 A2 A3 A4 A5 A6 A7 p c1 c2 c3 c4 c5 c6 c7 act B e:=by
 induction e using Ex.ind with
 |h op lit head name hi lo args ih=>
  intro he
  have he':=he
  simp only [aT,Bn,fz,Bw] at he'
  match args,ih,he,he' with
  | [],_,he,_=>exact xp A1 A2 A3 A4 A5 A6 A7 p c1 c2 c3 c4 c5 c6 c7 act B op lit head name hi lo he
  | [a],ih,he,he'=>exact yM A1 A2 A3 A4 A5 A6 A7 p c1 c2 c3 c4 c5 c6 c7 act B op lit head name hi lo a he (ih a (by simp) (he'.2 a (by simp)))
  |a::b::l,ih,he,he'=>
   intro cs w hB hP h
   have hea:=he'.2 a (by simp)
   have heb:=he'.2 b (by simp)
   have iha:=ih a (by simp) hea
   have ihb:=ih b (by simp) heb
   clear ih he he'
   cases hra:bI p act a with
   |error n7=>
    rw [show bI p act (.mk op lit head name hi lo (a::b::l))=.error n7 from by simp only [bI,hra]]
    exact uR A1 A2 A3 A4 A5 A6 A7 p c1 c2 c3 c4 c5 c6 c7 act B op lit head name hi lo a b l n7 hra iha ihb cs w hB hP h
   |ok s=>
    have hsk:=eu hm act a hea s hra
    obtain ⟨sw,sr,sf⟩:=s
    by_cases hop:op=14∨op=15
    ·rw [show bI p act (.mk op lit head name hi lo (a::b::l))=gv ⟨sw,sr,sf⟩ from by simp only [bI,hra,if_pos hop]]
     exact sL A1 A2 A3 A4 A5 A6 A7 p c1 c2 c3 c4 c5 c6 c7 act B op lit head name hi lo a b l sw sr sf hra hop iha ihb cs w hB hP h
    ·have n14:¬op=14:=fun e=>hop (Or.inl e)
     have n15:¬op=15:=fun e=>hop (Or.inr e)
     cases hrb:bI p act b with
     |error n7=>
      rw [show bI p act (.mk op lit head name hi lo (a::b::l))=.error n7 from by simp only [bI,hra,hrb,if_neg hop]]
      exact uS A1 A2 A3 A4 A5 A6 A7 p c1 c2 c3 c4 c5 c6 c7 act B op lit head name hi lo a b l n7 sw sr sf hra hrb n14 n15 iha ihb cs w hB hP h
     |ok t=>
      have htk:=eu hm act b heb t hrb
      obtain ⟨tw,tr,tf⟩:=t
      rw [show bI p act (.mk op lit head name hi lo (a::b::l))=cI op a b ⟨sw,sr,sf⟩ ⟨tw,tr,tf⟩ from by simp only [bI,hra,hrb,if_neg hop]]
      by_cases h11:op=11
      ·exact qJ A1 A2 A3 A4 A5 A6 A7 p c1 c2 c3 c4 c5 c6 c7 act B op lit head name hi lo a b l sw sr sf hra tw tr tf hrb hsk htk h11 iha ihb cs w hB hP h
      ·by_cases h25:25≤op
       ·exact nG A1 A2 A3 A4 A5 A6 A7 p c1 c2 c3 c4 c5 c6 c7 act B op lit head name hi lo a b l sw sr sf hra tw tr tf hrb hsk htk n14 n15 h11 h25 iha ihb cs w hB hP h
       ·exact pq A1 A2 A3 A4 A5 A6 A7 p c1 c2 c3 c4 c5 c6 c7 act B op lit head name hi lo a b l sw sr sf hra tw tr tf hrb hsk htk n14 n15 h11 (by omega) iha ihb cs w hB hP h
theorem ip (A1 A2 A3 A4 A5 A6 A7:Option Addr) (p:Pg) (c1 c2 c3 c4 c5 c6 c7:Nat) (act:Int) (B:Nat) (hm:bg p=true) (e:Ex) (he:aT e=true):gN A1 A2 A3 A4 A5 A6 A7 p c1 c2 c3 c4 c5 c6 c7 act B e:=ud A1 A2 A3 A4 A5 A6 A7 p c1 c2 c3 c4 c5 c6 c7 act B (dH hm) e he
abbrev Fm:=(Bool×Bool×Bool×Bool)×Int
def yN (f:Fm):Value:=.agg #[.bool f.1.1,.bool f.1.2.1,.bool f.1.2.2.1,.bool f.1.2.2.2,.int .i64 f.2]
theorem jy (a:Int) (e:Bool) (w:World):(Instr.checkKey e 10000 5 (.int .u8 a)).run prog w=.ok () w:=by
 have hk:∀ n:Nat,(Instr.checkKey e (n+1) 5 (.int .u8 a)).run prog w=.ok () w:=fun n=>by simp [Instr.checkKey,run_underlying underlying5]
 exact hk 9999
abbrev FF:=List (Int×Fm)
def fL (o:Nat) (M:FF):List MapEntry:=(M.zipIdx o).map fun x=>⟨.int .u8 x.1.1,yN x.1.2,x.2⟩
def pt (M:FF):Array MapEntry:=(fL 0 M).toArray
def kV (w:World) (b:Nat) (M:FF):Prop:=w.heap[b]? =some (.map (pt M) M.length)
def pu (w:World) (b:Nat) (M:FF):World:= { w with heap:=w.heap.setIfInBounds b (.map (pt M) M.length)}
def dC:FF→Int→Option (Nat×Fm)
 | [],_=>none
 |x::M,e=>if e=x.1 then some (0,x.2) else (dC M e).map fun y=>(y.1+1,y.2)
theorem qL (e:Int):∀ (M:FF) (o i:Nat),Instr.findNow (.int .u8) (.int .u8 e) (fL o M) i=some ((dC M e).map fun y=>(i+y.1,yN y.2))
 | [],o,i=>by simp [fL,Instr.findNow,dC]
 |x::M,o,i=>by
  have ih:=qL e M (o+1) (i+1)
  have hm:fL o (x::M)=⟨.int .u8 x.1,yN x.2,o⟩::fL (o+1) M:=by simp [fL,List.zipIdx_cons]
  rw [hm]
  unfold Instr.findNow
  simp only [Instr.sameNow,if_true]
  by_cases h:e=x.1
  ·simp [dC,h]
  ·have h':(e==x.1)=false:=by simpa using h
   simp only [h',dC,if_neg h,ih]
   cases dC M e with
   |none=>simp
   |some y=>simp;omega
theorem jz (e:Int) (w:World) (M:FF):(Instr.findKey 5 (.int .u8 e) (pt M).toList).run prog w=.ok ((dC M e).map fun y=>(y.1,yN y.2)) w:=by
 have:=qL e M 0 0
 unfold Instr.findKey
 simp only [Sem.run_bind,run_underlying underlying5,Result.andThen_ok,pt,this]
 simp
theorem kW {w:World} {b:Nat} {M:FF} (h:kV w b M):(getObj b).run prog w=.ok (.map (pt M) M.length) w:=by
 unfold kV at h
 simp [getObj,Sem.run,h]
theorem qN {w:World} {b:Nat} {M:FF} (h:kV w b M) (M':FF) (es:Array MapEntry) (c:Nat) (he:es=pt M') (hc:c=M'.length):(setObj b (.map es c)).run prog w=.ok () (pu w b M'):=by
 unfold kV at h
 subst he hc
 simp [setObj,Sem.run,h,pu]
theorem kV.lt {w:World} {b:Nat} {M:FF} (h:kV w b M):b<w.heap.size:=by
 rcases Nat.lt_or_ge b w.heap.size with h1|h1
 ·exact h1
 ·unfold kV at h;rw [B8 h1] at h;cases h
theorem yO {w:World} {b:Nat} {M M':FF} (h:kV w b M):kV (pu w b M') b M':=by
 have:=h.lt
 simp [kV,pu,this]
theorem kV.alloc {w:World} {b:Nat} {M:FF} (h:kV w b M) (o:Obj):kV (w.alloc o) b M:=(Below.heap_alloc w o b h.lt).trans h
theorem kV.below {w w':World} {b B:Nat} {M:FF} (h:kV w b M) (hb:Below B w w') (hB:b<B):kV w' b M:=(hb.block b hB).trans h
theorem sM {B b:Nat} {w w':World} {M:FF} (h:Below B w w') (hB:B≤b):Below B w (pu w' b M):=
 ⟨h.os,h.tape,h.output,by simpa [pu] using h.size,fun k hk=>by
  rw [←h.block k hk];simp only [pu];rw [Array.getElem?_setIfInBounds_ne (by omega)]⟩
theorem qO {w:World} {b:Nat} {M:FF} (h:kV w b M) (e:Int):(Instr.lookup 105 (.map (some b)) (.int .u8 e) true).run prog w=
  .ok (.tuple #[yN (((dC M e).map fun y=>y.2).getD ((false,false,false,false),0)),.bool (dC M e).isSome]) w:=by
 have hz:(zeroValue 109).run prog w=.ok (yN ((false,false,false,false),0)) w:=by go_simp;rfl
 unfold Instr.lookup
 simp only [Sem.run_bind,run_underlying underlying105,Result.andThen_ok,kW h,Sem.run_pure,jy,jz]
 cases hl:dC M e with
 |none=>simp [hz]
 |some y=>simp
theorem qQ {w:World} {b:Nat} {M:FF} (h:kV w b M) {e:Int} (f:Fm) (hl:dC M e=none):
  (Instr.mapUpdate 105 (.map (some b)) (.int .u8 e) (yN f)).run prog w=.ok () (pu w b (M++ [(e,f)])):=by
 have hp:(pt M).push ⟨.int .u8 e,yN f,M.length⟩=pt (M++ [(e,f)]):=by
  simp [pt,fL,List.zipIdx_append]
 unfold Instr.mapUpdate
 simp only [Sem.run_bind,run_underlying underlying105,Result.andThen_ok,kW h,jy,jz,hl,Option.map_none,qN h (M++ [(e,f)]) _ (M.length+1) hp (by simp)]
def ch (n:Nat):FF:=(List.range n).filterMap fun (i:Nat)=>(bj ((i:Int)+1)).map fun f=>((i:Int)+1,f)
theorem iU (e:Int):∀ (l:List Nat),(dC (l.filterMap fun (i:Nat)=>(bj ((i:Int)+1)).map fun f=>((i:Int)+1,f)) e).map (fun y=>y.2)=if (∃ i∈l,(i:Int)+1=e) then bj e else none
 | []=>by simp [dC]
 |i::l=>by
  have ih:=iU e l
  simp only [List.filterMap_cons]
  by_cases h:(i:Int)+1=e
  ·rw [if_pos ⟨i,BW,h⟩,h]
   cases hf:bj e with
   |none=>
    simp only [Option.map_none]
    rw [ih,hf];simp
   |some f=>simp [dC]
  ·have hx:(∃ j∈i::l,(j:Int)+1=e)↔∃ j∈l,(j:Int)+1=e:=by
    constructor
    ·rintro ⟨j,hj,hje⟩
     rcases BI.1 hj with rfl|hj
     ·exact absurd hje h
     ·exact ⟨j,hj,hje⟩
    ·rintro ⟨j,hj,hje⟩;exact ⟨j,BT _ hj,hje⟩
   simp only [hx]
   cases hf:bj ((i:Int)+1) with
   |none=>simp only [Option.map_none];exact ih
   |some f=>
    have h':¬e=(i:Int)+1:=fun g=>h g.symm
    simp only [Option.map_some,dC,if_neg h',Option.map_map]
    rw [←ih];rfl
theorem sN (e:Int):(dC (ch 26) e).map (fun y=>y.2)=bj e:=by
 unfold ch
 rw [iU]
 split
 ·rfl
 ·rename_i h
  have:¬(1≤e∧e≤26):=fun g=>h ⟨(e-1).toNat,List.mem_range.2 (by omega),by omega⟩
  unfold bj
  repeat (rw [if_neg (by omega)])
theorem uU {n:Nat} {f:Fm} (h:bj ((n:Int)+1)=some f):ch (n+1)=ch n++ [((n:Int)+1,f)]:=by
 unfold ch
 rw [List.range_succ,List.filterMap_append]
 simp [h]
theorem uV {n:Nat} {e:Int} (h:(n:Int)<e):dC (ch n) e=none:=by
 have:=iU e (List.range n)
 rw [if_neg (by rintro ⟨i,hi,he⟩;rw [List.mem_range] at hi;omega)] at this
 unfold ch
 cases hl:dC (List.filterMap (fun (i:Nat)=>(bj ((i:Int)+1)).map fun f=>((i:Int)+1,f)) (List.range n)) e with
 |none=>rfl
 |some y=>rw [hl] at this;cases this
theorem eQ {w:World} {b:Nat} {n:Nat} (f:Fm) (h:kV w b (ch n)) (hf:bj ((n:Int)+1)=some f):
  ∃ w',(Instr.mapUpdate 105 (.map (some b)) (.int .u8 ((n:Int)+1)) (yN f)).run prog w=.ok () w'∧kV w' b (ch (n+1))∧(∀ B,B≤b→Below B w w')∧w'.heap.size=w.heap.size:=by
 have h1:=qQ h f (e:=(n:Int)+1) (uV (by omega))
 rw [←uU hf] at h1
 exact ⟨_,h1,yO h,fun B hB=>sM (Bi _ _) hB,by simp [pu]⟩
theorem uW (w:World):Calls prog 46 #[] w fun e w'=>e=.returned (.map (some w.heap.size))∧kV w' w.heap.size (ch 26)∧Below w.heap.size w w':=by
 have hmm:=@run_makeMap prog
 have f0:kV (w.alloc (.map #[] 0)) w.heap.size (ch 0):=by
  have:(w.alloc (.map #[] 0)).heap[w.heap.size]? =some (.map #[] 0):=heap_alloc_new w _
  exact this
 obtain ⟨w0,hw0⟩:∃ w0,w.alloc (.map #[] 0)=w0:=⟨_,rfl⟩
 have b0:Below w.heap.size w w0:=by rw [←hw0];exact (Bi _ _).alloc (Bm _) _
 rw [hw0] at f0
 obtain ⟨w1,r1,f1,g1,-⟩:=eQ ((false,false,true,false),0) f0 (by decide)
 have b1:=b0.trans (g1 _ (Bm _))
 replace r1:(Instr.mapUpdate 105 (.map (some w.heap.size)) (.int .u8 1) (.agg #[.bool false,.bool false,.bool true,.bool false,.int .i64 0])).run prog w0=.ok () w1:=r1
 obtain ⟨w2,r2,f2,g2,-⟩:=eQ ((true,true,false,false),0) f1 (by decide)
 have b2:=b1.trans (g2 _ (Bm _))
 replace r2:(Instr.mapUpdate 105 (.map (some w.heap.size)) (.int .u8 2) (.agg #[.bool true,.bool true,.bool false,.bool false,.int .i64 0])).run prog w1=.ok () w2:=r2
 obtain ⟨w3,r3,f3,g3,-⟩:=eQ ((false,true,false,false),0) f2 (by decide)
 have b3:=b2.trans (g3 _ (Bm _))
 replace r3:(Instr.mapUpdate 105 (.map (some w.heap.size)) (.int .u8 3) (.agg #[.bool false,.bool true,.bool false,.bool false,.int .i64 0])).run prog w2=.ok () w3:=r3
 obtain ⟨w4,r4,f4,g4,-⟩:=eQ ((false,true,false,false),0) f3 (by decide)
 have b4:=b3.trans (g4 _ (Bm _))
 replace r4:(Instr.mapUpdate 105 (.map (some w.heap.size)) (.int .u8 4) (.agg #[.bool false,.bool true,.bool false,.bool false,.int .i64 0])).run prog w3=.ok () w4:=r4
 obtain ⟨w5,r5,f5,g5,-⟩:=eQ ((false,false,false,false),0) f4 (by decide)
 have b5:=b4.trans (g5 _ (Bm _))
 replace r5:(Instr.mapUpdate 105 (.map (some w.heap.size)) (.int .u8 5) (.agg #[.bool false,.bool false,.bool false,.bool false,.int .i64 0])).run prog w4=.ok () w5:=r5
 obtain ⟨w6,r6,f6,g6,-⟩:=eQ ((true,false,false,false),0) f5 (by decide)
 have b6:=b5.trans (g6 _ (Bm _))
 replace r6:(Instr.mapUpdate 105 (.map (some w.heap.size)) (.int .u8 6) (.agg #[.bool true,.bool false,.bool false,.bool false,.int .i64 0])).run prog w5=.ok () w6:=r6
 obtain ⟨w7,r7,f7,g7,-⟩:=eQ ((false,false,false,false),1) f6 (by decide)
 have b7:=b6.trans (g7 _ (Bm _))
 replace r7:(Instr.mapUpdate 105 (.map (some w.heap.size)) (.int .u8 7) (.agg #[.bool false,.bool false,.bool false,.bool false,.int .i64 1])).run prog w6=.ok () w7:=r7
 obtain ⟨w8,r8,f8,g8,-⟩:=eQ ((false,false,false,false),1) f7 (by decide)
 have b8:=b7.trans (g8 _ (Bm _))
 replace r8:(Instr.mapUpdate 105 (.map (some w.heap.size)) (.int .u8 8) (.agg #[.bool false,.bool false,.bool false,.bool false,.int .i64 1])).run prog w7=.ok () w8:=r8
 obtain ⟨w9,r9,f9,g9,-⟩:=eQ ((false,false,false,false),1) f8 (by decide)
 have b9:=b8.trans (g9 _ (Bm _))
 replace r9:(Instr.mapUpdate 105 (.map (some w.heap.size)) (.int .u8 9) (.agg #[.bool false,.bool false,.bool false,.bool false,.int .i64 1])).run prog w8=.ok () w9:=r9
 obtain ⟨w10,r10,f10,g10,-⟩:=eQ ((false,false,false,true),1) f9 (by decide)
 have b10:=b9.trans (g10 _ (Bm _))
 replace r10:(Instr.mapUpdate 105 (.map (some w.heap.size)) (.int .u8 10) (.agg #[.bool false,.bool false,.bool false,.bool true,.int .i64 1])).run prog w9=.ok () w10:=r10
 replace f10:=aa f10
 replace b10:=aa b10
 clear f0 g1 b0 f1 g2 b1 f2 g3 b2 f3 g4 b3 f4 g5 b4 f5 g6 b5 f6 g7 b6 f7 g8 b7 f8 g9 b8 f9 g10 b9
 go_enter func46,ntmps46
 go_wp2_with fail
 clear hmm r1 r2 r3 r4 r5 r6 r7 r8 r9 r10 hw0
 go_loopw [2] (fun o wr=>∃ k:Nat,10≤k∧k≤26∧o=.int .u8 ((k:Int)+1)∧Hid (kV wr w.heap.size (ch k))∧Hid (Below w.heap.size w wr)) (fun o _=>(27-intOf o).toNat)
 case atStart=>exact ⟨10,by omega,by omega,rfl,f10,b10⟩
 case round=>
  obtain ⟨k,hk1,hk2,rfl,hf,hb⟩:=hrel
  by_cases hlt:k<26
  ·have hle:(k:Int)+1≤26:=by omega
   have hfo:bj ((k:Int)+1)=some ((false,false,false,false),2):=by
    unfold bj
    repeat (rw [if_neg (by omega)])
    rw [if_pos (by omega)]
   obtain ⟨wn,rn,fn,gn,-⟩:=eQ ((false,false,false,false),2) hf.out hfo
   replace rn:(Instr.mapUpdate 105 (.map (some w.heap.size)) (.int .u8 ((k:Int)+1)) (.agg #[.bool false,.bool false,.bool false,.bool false,.int .i64 2])).run prog wr=.ok () wn:=rn
   have hbn:=aa (hb.out.trans (gn _ (Bm _)))
   replace fn:=aa fn
   clear gn hfo
   have hw8:IntKind.u8.wrap ((k:Int)+1+1)=(k:Int)+1+1:=by rw [IntKind.wrap_u8'];omega
   go_wp2
   go_roundw
   case rel=>exact ⟨k+1,by omega,by omega,by go_num,fn,hbn⟩
   case measure=>simp [intOf];omega
  ·have hle:¬(k:Int)+1≤26:=by omega
   have hke:k=26:=by omega
   subst hke
   go_wp2
   go_ret
   exact ⟨rfl,hf.out,hb.out⟩
def eY (a b:Int):Int:=if a<b then-1 else if b<a then 1 else 0
theorem uX (a:Int) (w:World):Calls prog 184 #[.int .u64 a] w fun e w'=>e=.returned (.bool false)∧w=w':=by
 go_enter func184,ntmps184
 go_wp2
 go_ret
 exact ⟨ah (by simp),rfl⟩
theorem kY (a b:Int) (w:World):Calls prog 121 #[.int .u64 a,.int .u64 b] w fun e w'=>e=.returned (.int .i64 (eY a b))∧w'=w:=by
 go_enter func121,ntmps121
 by_cases h1:a<b
 have hv:=aa (show eY a b= -1 from by unfold eY;rw [if_pos h1])
 rotate_right
 focus
  by_cases h2:b<a
  have hv:=aa (show eY a b=1 from by unfold eY;rw [if_neg h1,if_pos h2])
  rotate_right
  have hv:=aa (show eY a b=0 from by unfold eY;rw [if_neg h1,if_neg h2])
 all_goals
  go_wp2_with (go_at_call 184;refine (uX _ _).mono ?_;rintro e w' ⟨rfl,rfl⟩)
  go_ret
  exact ⟨ag hv.out.symm,rfl⟩
def wO (x y:Int):Int:=if x=0 then y else x
theorem uY (x y:Int) (b:Nat) (w:World) (h0:w.cell? ⟨b,0,none⟩=some (.int .i64 x)) (h1:w.cell? ⟨b,1,none⟩=some (.int .i64 y)):
  Calls prog 120 #[.slice (some ⟨b,0,none⟩) 2 2] w fun e w'=>e=.returned (.int .i64 (wO x y))∧w=w':=by
 have hc:∀ k:Nat,k<2→w.cell? ⟨b,k,none⟩=some (.int .i64 (if k=0 then x else y)):=fun k hk=>by
  rcases k with _|_|k
  ·exact h0
  ·exact h1
  ·omega
 replace hc:=aa hc
 clear h0 h1
 go_enter func120,ntmps120
 go_wp2
 go_loop [8] (fun i=>∃ k:Nat,k≤2∧i=.int .i64 k∧Hid (1≤k→x=0)∧Hid (2≤k→y=0)) (fun i=>2-(intOf i).toNat)
 case atStart=>exact ⟨0,by omega,rfl,aa (by omega),aa (by omega)⟩
 case round=>
  obtain ⟨k,hk,rfl,hx,hy⟩:=hrel
  by_cases hlt:k<2
  ·have hcell:=hc.out k hlt
   have hltz:(k:Int)<2:=by omega
   generalize hz:(if k=0 then x else y)=z at hcell
   replace hz:=aa hz
   by_cases h0:z=0
   ·have hb:(z !=0)=false:=by simpa using h0
    have h0':=aa h0
    clear h0
    go_wp2
    go_round
    case rel=>
     refine ⟨k+1,by omega,by go_num,aa fun _=> ?_,aa fun h2=> ?_⟩
     ·by_cases hk0:k=0
      ·have:=hz.out;rw [if_pos hk0] at this;rw [this];exact h0'.out
      ·exact hx.out (by omega)
     ·have:=hz.out;rw [if_neg (by omega)] at this;rw [this];exact h0'.out
    case measure=>simp [intOf];omega
   ·have hb:(z !=0)=true:=by simpa using h0
    have hv:=aa (show wO x y=z from by
     unfold wO
     by_cases hk0:k=0
     ·have:=hz.out;rw [if_pos hk0] at this;subst this;rw [if_neg h0]
     ·have:=hz.out;rw [if_neg hk0] at this;rw [if_pos (hx.out (by omega))];exact this)
    clear h0
    go_wp2
    go_ret
    exact ⟨ag hv.out.symm,rfl⟩
  ·have hv:=aa (show wO x y=0 from by unfold wO;rw [if_pos (hx.out (by omega))];exact hy.out (by omega))
   go_wp2
   go_ret
   exact ⟨ag hv.out.symm,rfl⟩
theorem ue (a b c d:Int) (w:World):Calls prog 50 #[.agg #[.int .u64 a,.int .u64 b],.agg #[.int .u64 c,.int .u64 d]] w fun e w'=>e=.returned (.int .i64 (wO (eY a c) (eY b d)))∧Below w.heap.size w w':=by
 go_enter func50,ntmps50
 go_wp2_with fail
 refine wp_region_still_tail 10 (by kernel_rfl) (by kernel_rfl) ?_
 simp only [BE,Bz,BY,List.drop_zero]
 change wpStill _ _ (World.drew _) _ _ _
 iterate 4 still_step
 still_call (kY _ _ _)
 iterate 4 still_step
 still_call (kY _ _ _)
 refine wpStill_nil ?_
 change wpList _ _ _ _ _ (World.drew _)
 go_wp2_with fail
 refine (uY (eY a c) (eY b d) _ _ (by go_simp) (by go_simp)).mono ?_
 rintro e w1 ⟨rfl,rfl⟩
 go_wp2
 go_ret
 exact ⟨rfl,((((Bi _ _).alloc (Bm _) _).alloc (by simp) _).alloc (by simp;omega) _).drew⟩
theorem ug (l:Lt) (hl:em l):decide (0<wO (eY l.2.1 0) (eY l.2.2 127))= !decide (lG l≤127):=by
 obtain ⟨-,⟨a0,a1⟩,b0,b1⟩:=hl
 have key:0<wO (eY l.2.1 0) (eY l.2.2 127)↔¬lG l≤127:=by
  unfold lG
  have e1:eY l.2.1 0=if l.2.1=0 then 0 else 1:=by
   unfold eY
   rw [if_neg (by omega)]
   by_cases h:l.2.1=0
   ·rw [if_neg (by omega),if_pos h]
   ·rw [if_pos (by omega),if_neg h]
  rw [e1]
  by_cases h:l.2.1=0
  ·rw [if_pos h]
   unfold wO eY
   rw [if_pos rfl]
   by_cases h3:l.2.2<127
   ·rw [if_pos h3];omega
   ·rw [if_neg h3]
    by_cases h4:127<l.2.2
    ·rw [if_pos h4];omega
    ·rw [if_neg h4];omega
  ·rw [if_neg h]
   unfold wO
   rw [if_neg (by omega)]
   omega
 rw [Bool.eq_iff_iff]
 simp [key]
theorem xq (a:Int) (w:World):Calls prog 51 #[.int .u64 a] w fun e w'=>e=.returned (.agg #[.int .u64 0,.int .u64 a])∧Below w.heap.size w w':=by
 go_enter func51,ntmps51
 go_wp2
 exact bodyPost_ret (v:=.agg #[.int .u64 0,.int .u64 a]) (by simp [results,results51,go_sem]) rfl ⟨rfl,(Bi _ _).alloc (Bm _) _⟩
def cR (e:Ex) (n:Nat):Bool:=decide (bQ e≤n)&&aT e
theorem oy (e:Ex):cR e 0=false:=by
 have:1≤bQ e:=by cases e;simp only [bQ];omega
 simp [cR];omega
theorem oz {n:Nat}:∀ l:List Ex,bC l≤n↔∀ x∈l,bQ x≤n
 | []=>by simp [bC]
 |x::l=>by
  have:=oz (n:=n) l
  simp only [bC,BI,forall_eq_or_imp,←this]
  omega
theorem oA (op:Int) (lit:Lt) (head name:ByteArray) (hi lo:Int) (args:List Ex) (n:Nat):
  cR (.mk op lit head name hi lo args) (n+1)=(fp op lit head name hi lo args.length&&(lH op args&&args.all fun x=>cR x n)):=by
 unfold cR
 have h1:decide (bQ (.mk op lit head name hi lo args)≤n+1)=decide (bC args≤n):=by
  simp only [bQ];rw [Bool.eq_iff_iff];simp
 have h2:(args.all fun x=>decide (bQ x≤n)&&aT x)=(decide (bC args≤n)&&args.all aT):=by
  rw [Bool.eq_iff_iff]
  simp only [Bw,Bn,decide_eq_true_eq,oz]
  exact ⟨fun h=>⟨fun x hx=>(h x hx).1,fun x hx=>(h x hx).2⟩,fun h x hx=>⟨h.1 x hx,h.2 x hx⟩⟩
 rw [h1,h2,aT,fz]
 cases fp op lit head name hi lo args.length<;>cases lH op args<;>simp
theorem yP (e:Ex):cj e=cR e 16:=rfl
end Go.Proofs.YtbbdhknagofghaaGreat

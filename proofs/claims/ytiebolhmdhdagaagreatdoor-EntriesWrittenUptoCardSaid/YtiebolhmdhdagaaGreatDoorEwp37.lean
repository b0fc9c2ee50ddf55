import Derived.Test.YtiebolhmdhdagaaGreatDoorEwp22
set_option linter.all false
set_option maxHeartbeats 8000000
set_option maxRecDepth 100000
open Go.Proofs.Tryz
namespace Go.Proofs.YtiebolhmdhdagaaGreatDoor
open _root_.Nat renaming lt_of_lt_of_le→He, le_refl→Hh, le_trans→Hj, zero_le→Hm, zero_add→HS
open _root_.Go.RowKit.Below renaming refl→Hf
open _root_.List renaming getElem_mem→Ho, length_cons→Hp, length_append→Hu, append_assoc→HP, take_succ_eq_append_getElem→HR, length_nil→HY, take_length→HZ, mem_append→H0, length_pos_iff→H3, drop_eq_getElem_cons→H4, nil_append→H5, eq_nil_of_length_eq_zero→H8
open _root_.Int renaming eq_ofNat_of_zero_le→Hv
open Go.RowKit
section
def Ap (u v:Value):Prop:=∀ g,u.ownBlock=some g→v.ownBlock≠some g
theorem Ap.symm {u v:Value} (h:Ap u v):Ap v u:=fun g h1 h2=>h g h2 h1
theorem Ap.nil_ (v:Value):Ap v (.slice none 0 0):=fun g _ h=>by simp [Value.ownBlock] at h
theorem Ap.nil_l (v:Value):Ap (.slice none 0 0) v:=(Ap.nil_ v).symm
theorem Ap.of_lt {w w':World} {base base':Nat} {u v:Value} {l m:List Int} (hu:cD w base u l) (hv:cD w' base' v m) (h:w.heap.size≤base'):Ap u v:=fun g h1 h2=>by
 have a:=(World.ownsRow.lt hu g h1).2
 have b:=(World.ownsRow.lt hv g h2).1
 omega
theorem jS {W:World} {base:Nat} {v:Value} {l:List Int} (x:Int) (hd:cD W base v l) (hb:base≤W.heap.size) (hz:l.length≤dI):
  ∃ v' w',(eO #[23,23] 23 #[v,.slice (some ⟨W.heap.size,0,none⟩) 1 1]).run prog (W.alloc (.cells #[.int .i64 x] 3))=.ok v' w'∧cD w' base v' (l++ [x])∧Below base W w'∧∀ u m,cD W base u m→Ap u v→cD w' base u m∧Ap u v':=by
 unfold dI at hz
 obtain ⟨ii,hii,hzi0,hzi1,hzi2⟩:=info_parts nr
 obtain ⟨v',w',hrun,h2,h3,_,h5⟩:=run_append_own_at (P:=prog) (W.alloc (.cells #[.int .i64 x] 3)) base 23 23 3 ii (.int .i64 0) 1 8 underlying23 hii hzi0 hzi1 hzi2 rfl (by omega) v l.length _ (World.ownsRow.alloc hd _) ⟨W.heap.size,0,none⟩ 1 1 [.int .i64 x] rfl (World.news_of_block (cs:=#[.int .i64 x]) (t:=3) (fr:=(0,0)) (heap_alloc_new W _)) (rY [x]) (by unfold maxLen;omega) (by omega) (by simp;omega)
 refine ⟨v',w',hrun,by unfold cD;simpa using h2,(((Hf _ _).alloc hb _).grown h3 (by simp;omega) (fun g e=>(hd.lt g e).1)),fun u m hu ha=>⟨?_,fun g h1 h2'=> ?_⟩⟩
 ·have h4:(W.alloc (.cells #[.int .i64 x] 3)).ownsRow base 3 1 u m.length (m.map (Value.int .i64)):=World.ownsRow.alloc hu _
  refine World.ownsRow.kept h4 h3 ?_
  cases hg:u.ownBlock with
  |none=>exact .inl rfl
  |some g=>exact .inr fun e=>ha g hg e.symm
 ·have hlt:=(World.ownsRow.lt hu g h1).2
  rcases h5 with h5|h5
  ·exact ha g h1 (by rw [←h5];exact h2')
  ·rw [h5] at h2'
   simp at h2'
   omega
theorem cD.addr {w:World} {base:Nat} {A:Option Addr} {n cap:Nat} {l:List Int} (h:cD w base (.slice A n cap) l) (hl:0<l.length):∃ b,A=some ⟨b,0,none⟩:=by
 rcases h.2 with ⟨_,hz⟩|⟨g,cap',cur,e,_⟩
 ·omega
 ·injection e with e1 e2 e3
  exact ⟨g,e1⟩
theorem cD.cell {w:World} {base b:Nat} {n cap:Nat} {l:List Int} (h:cD w base (.slice (some ⟨b,0,none⟩) n cap) l) {i:Nat} (hi:i<l.length):w.cell? ⟨b,i,none⟩=some (.int .i64 l[i])∧b<w.heap.size:=by
 obtain ⟨A,cap',e,hs⟩:=h.sl
 injection e with e1 e2 e3
 subst e1
 obtain ⟨b',o',e,hb,hc⟩:=hs.int hi
 injection e with e
 injection e with e1 e2 e3
 subst e1 e2
 simp only [HS] at hc
 exact ⟨hc,hb⟩
attribute [local go_sem ↓] cU
structure Sb (n:Nat) (S:List Int):Prop where
 nodup:S.Nodup
 mem:∀ t∈S,0≤t∧t<n
theorem Sb.len {n:Nat} {S:List Int} (h:Sb n S):S.length≤n:=j9 h.nodup h.mem
theorem Sb.add {n:Nat} {S:List Int} (h:Sb n S) {t:Int} (h0:0≤t) (h1:t<n) (hn:t∉S):Sb n (S++ [t]):=
 ⟨by rw [List.nodup_append];exact ⟨h.nodup,by simp,fun a ha b hb=>by simp at hb;subst hb;exact fun e=>hn (e ▸ ha)⟩,fun u hu=>by
  rcases H0.1 hu with hu|hu
  ·exact h.mem u hu
  ·simp at hu;subst hu;exact ⟨h0,h1⟩⟩
def BT:Value→Nat
 | .slice _ n _=>n
 |_=>0
structure DC (w wx:World) (g:Nat) (A2 A3:Option Addr) (n2 c2 n3 c3:Nat) (tt:Int):Prop where
 below:Below w.heap.size w wx
 low:w.heap.size≤g
 high:g<wx.heap.size
 keys:wx.cell? ⟨g,1,none⟩=some (.slice A2 n2 c2)
 brs:wx.cell? ⟨g,2,none⟩=some (.slice A3 n3 c3)
 tto:wx.cell? ⟨g,3,none⟩=some (.int .i64 tt)
theorem DC.new (w:World) (A1 A2 A3:Option Addr) (n1 c1 n2 c2 n3 c3:Nat) (tt:Int):DC w ((w.alloc (.cells #[.slice A1 n1 c1,.slice A2 n2 c2,.slice A3 n3 c3,.int .i64 tt] 100)).drew) w.heap.size A2 A3 n2 c2 n3 c3 tt:=by
 have hc:∀ i,(w.alloc (.cells #[.slice A1 n1 c1,.slice A2 n2 c2,.slice A3 n3 c3,.int .i64 tt] 100)).drew.cell? ⟨w.heap.size,i,none⟩=(#[.slice A1 n1 c1,.slice A2 n2 c2,.slice A3 n3 c3,.int .i64 tt]:Array Value)[i]? :=fun _=>World.cell?_alloc_at _ _ _ _ rfl
 exact ⟨((Hf _ _).alloc (Hh _) _).drew,Hh _,by simp [World.drew],hc 1,hc 2,hc 3⟩
theorem tI (A1 A2 A3 A4 A5 A6 A7 A8 A9 A10 A11 A12:Option Addr) (p:Lp) (c1 c2 c3 c4 c5 c6 c7 c8 c9 c10 c11 c12:Nat) (s:Nat) (w:World) (h:cJ w w.heap.size A1 A2 A3 A4 A5 A6 A7 A8 A9 A10 A11 A12 p) (hs:s<p.steps.length) (hg:∀ i,∀ t∈bk p.steps i,t<p.steps.length) (hbr:∀ x∈p.steps,x.brs.length≤1000) (h16:p.steps.length≤16):
  Calls prog 66 #[.agg #[.slice A1 p.heads.length c1,.slice A2 p.metas.length c2,.slice A3 p.steps.length c3,.slice A4 p.acts.length c4,.slice A5 p.tabs.length c5,.slice A6 p.control.length c6,.slice A7 p.emit.length c7,.slice A8 p.nh.length c8,.slice A9 p.nf.length c9,.slice A10 p.nm.length c10,.slice A11 p.na.length c11,.slice A12 p.nt.length c12],.int .i64 (s:Int)] w fun e w'=>e=.returned (.bool (oJ p.steps s))∧Below w.heap.size w w':=by
 have l3:=h.steps.len
 obtain ⟨wz,hwz,hsz,hbz,hcz,-⟩:=ak w #[.slice A1 p.heads.length c1,.slice A2 p.metas.length c2,.slice A3 p.steps.length c3,.slice A4 p.acts.length c4,.slice A5 p.tabs.length c5,.slice A6 p.control.length c6,.slice A7 p.emit.length c7,.slice A8 p.nh.length c8,.slice A9 p.nf.length c9,.slice A10 p.nm.length c10,.slice A11 p.na.length c11,.slice A12 p.nt.length c12] 33
 have hl1:w.heap.size<wz.heap.size:=by omega
 obtain ⟨-,-,y2,-,-,-,-,-,-,-,-,-⟩:=aC hcz
 have hSt:=aa ((h.below hbz).more (B':=wz.heap.size) hbz.size).steps
 have hgo:=aa (fun W (hW:Below wz.heap.size wz W)=>hbz.trans (hW.mono hbz.size))
 have hv:=aa (show oJ p.steps s=zn (bk p.steps) s (p.steps.length+1) [] [(s:Int)] from rfl)
 generalize oJ p.steps s=RES at hv ⊢
 replace hsz:=aa hsz
 clear hcz hbz h
 have hg':=aa hg
 have hbr':=aa hbr
 clear hg hbr
 obtain ⟨w1,hw1,hs1,hb1,hc1,-⟩:=ak wz #[.int .i64 (s:Int)] 3
 have hI1:cD w1 wz.heap.size (.slice (some ⟨wz.heap.size,0,none⟩) 1 1) [(s:Int)]:=⟨rfl,.inr ⟨wz.heap.size,1,#[.int .i64 (s:Int)],rfl,Hh _,by rw [←hw1];exact heap_alloc_new wz _,Hh _,by decide,rfl,rfl⟩⟩
 replace hI1:=aa hI1
 replace hb1:=aa hb1
 replace hs1:=aa hs1
 clear hc1
 go_enter func66,ntmps66
 go_wp2
 go_loopw [5,6,7,8,9,10,11,12] (fun sv nv _ _ _ _ _ _ wr=>∃ (f:Nat) (S N:List Int) (As An:Option Addr) (cs cn:Nat),sv=.slice As S.length cs∧nv=.slice An N.length cn∧Hid (zn (bk p.steps) s f S N=RES)∧Hid (N= []∨p.steps.length+1≤S.length+f)∧Hid (Sb p.steps.length S)∧Hid (∀ t∈N,0≤t∧t<p.steps.length)∧Hid (cD wr wz.heap.size (.slice As S.length cs) S)∧Hid (cD wr wz.heap.size (.slice An N.length cn) N)∧Hid (Ap (.slice As S.length cs) (.slice An N.length cn))∧Hid (Below wz.heap.size wz wr)) (fun sv nv _ _ _ _ _ _ _=>2*(p.steps.length+1-BT sv)+min 1 (BT nv))
 case atStart=>exact ⟨p.steps.length+1,[],[(s:Int)],none,some ⟨wz.heap.size,0,none⟩,0,1,rfl,rfl,aa hv.out.symm,aa (.inr (by simp)),aa ⟨List.nodup_nil,fun t h=>by simp at h⟩,aa (fun t h=>by simp at h;subst h;exact ⟨by omega,by omega⟩),aa (cD.nil_ _ _),hI1,aa (Ap.nil_l _),hb1⟩
 case round=>
  obtain ⟨f,S,N,As,An,cs,cn,rfl,rfl,hR,hF,hS,hN,hIs,hIn,hap,hG⟩:=hrel
  by_cases hne:N.length=0
  ·have hnz:¬(0:Int)<(N.length:Int):=by omega
   have hf:RES=false:=by rw [←hR.out,H8 hne];cases f<;>rfl
   replace hf:=aa hf
   replace hne:=aa hne
   go_wp2
   go_ret
   exact ⟨ad hf.out.symm,hgo.out _ hG.out⟩
  ·have hnz:(0:Int)<(N.length:Int):=by omega
   have hN0:N≠ []:=fun e=>hne (by rw [e];rfl)
   have hnp:0<N.length:=by omega
   have hSl:=hS.out.len
   obtain ⟨f',rfl⟩:∃ f',f=f'+1:=⟨f-1,by rcases hF.out with h|h;exact absurd h hN0;omega⟩
   have hF':p.steps.length+1≤S.length+(f'+1):=by rcases hF.out with h|h;exact absurd h hN0;exact h
   have hR':(match vJ (bk p.steps) s S [] N with
    |none=>true
    |some r=>zn (bk p.steps) s f' r.1 r.2)=RES:=by
    rw [←hR.out]
    cases N with
    |nil=>exact absurd rfl hN0
    |cons a b=>rfl
   replace hR':=aa hR'
   clear hR hF
   go_wp2
   go_loopw [5,7,8,9,10,11,12] (fun sv xv iv _ _ _ _ wr=>∃ (i:Nat) (S' X:List Int) (As Ax:Option Addr) (cs cx:Nat),i≤N.length∧iv=.int .i64 i∧sv=.slice As S'.length cs∧xv=.slice Ax X.length cx∧Hid (vJ (bk p.steps) s S' X (N.drop i)=vJ (bk p.steps) s S [] N)∧Hid (S'.length=S.length+X.length)∧Hid (Sb p.steps.length S')∧Hid (∀ t∈X,0≤t∧t<p.steps.length)∧Hid (cD wr wz.heap.size (.slice As S'.length cs) S')∧Hid (cD wr wz.heap.size (.slice An N.length cn) N)∧Hid (cD wr wz.heap.size (.slice Ax X.length cx) X)∧Hid (Ap (.slice An N.length cn) (.slice As S'.length cs)∧Ap (.slice Ax X.length cx) (.slice As S'.length cs)∧Ap (.slice An N.length cn) (.slice Ax X.length cx))∧Hid (Below wz.heap.size wz wr)) (fun _ _ iv _ _ _ _ _=>N.length-(intOf iv).toNat)
   case atStart=>exact ⟨0,S,[],As,none,cs,0,Hm _,rfl,rfl,rfl,aa rfl,aa rfl,hS,aa (fun t h=>by simp at h),hIs,hIn,aa (cD.nil_ _ _),aa ⟨hap.out.symm,Ap.nil_l _,Ap.nil_ _⟩,hG⟩
   case round=>
    obtain ⟨i,S',X,As',Ax,cs',cx,hi,rfl,rfl,rfl,hP,hSX,hS',hX,hIs',hIn',hIx,hap',hG'⟩:=hrel
    have hzr:=hG'.out.size
    by_cases hlt:i<N.length
    ·have hiz:(i:Int)<(N.length:Int):=by omega
     have hmem:=hN.out N[i] (Ho hlt)
     have hdr:=aa (show N.drop i=N[i]::N.drop (i+1) from H4 hlt)
     obtain ⟨A',cap',e,hSlN⟩:=hIn'.out.sl
     injection e with ea eb ec
     subst ea ec
     obtain ⟨b,o,hA,hb,hcell⟩:=hSlN.int hlt
     have lN:N.length≤9223372036854775807:=hSlN.len
     subst hA
     generalize hx0:N[i]=x0 at hmem hdr hcell
     obtain ⟨hx1,hx2⟩:=hmem
     obtain ⟨k,rfl⟩:=Hv hx1
     have hk:k<p.steps.length:=by omega
     have hkz:(k:Int)<(p.steps.length:Int):=by omega
     obtain ⟨g,og,B1,B2,B3,d1,d2,d3,hA3,hgl,e0,e1,e2,e3,-,hKs,hBs,-⟩:=hSt.out.stp hk
     subst hA3
     have kbr:=ah hG'.out
     have q2:=(kbr.1 _ 2 hl1).trans y2
     have f0:=(kbr.1 _ (og+k*4) hgl).trans e0
     have f1:=(kbr.1 _ (og+k*4+1) hgl).trans e1
     have f2:=(kbr.1 _ (og+k*4+2) hgl).trans e2
     have f3:=(kbr.1 _ (og+k*4+3) hgl).trans e3
     have hB4:=He hl1 hzr
     have hB5:=He hgl hzr
     have hgr:=aa (nQ hk)
     have hbrk:=hbr'.out p.steps[k] (Ho hk)
     generalize p.steps[k]=st at e0 e1 e2 e3 f0 f1 f2 f3 hKs hBs hgr hbrk
     obtain ⟨tks,ks,bs,tt⟩:=st
     simp only at e0 e1 e2 e3 f0 f1 f2 f3 hKs hBs hgr hbrk
     have lk1:=hKs.len
     have lk2:=hBs.len
     replace hSlN:=aa hSlN
     clear kbr
     go_upto_region 8 with fail
     go_cut [9,17] from 18 to 96 (fun sp lv wx=>∃ gb,sp=.pointer (some ⟨gb,0,none⟩)∧lv=.bool true∧Hid (DC wr wx gb B2 B3 ks.length d2 bs.length d3 tt))
     case first=>
      go_wp2_with fail
      go_region
      all_goals go_wp2
      all_goals go_meet
      all_goals exact ⟨wr.heap.size,rfl,rfl,aa (DC.new _ _ _ _ _ _ _ _ _ _ _)⟩
     case rest=>
      obtain ⟨gb,rfl,rfl,hSB⟩:=hcut
      obtain ⟨w8,rfl⟩:∃ w8:World,w8=wc:=⟨_,rfl⟩
      have hs8:=hSB.out.below.size
      have z1:=hSB.out.keys
      have z2:=hSB.out.brs
      have z3:=hSB.out.tto
      have zl:=hSB.out.low
      have zh:=hSB.out.high
      have hG8:=aa (hG'.out.trans (hSB.out.below.mono hzr))
      have hIs8:=aa (hIs'.out.below hSB.out.below (Hh _))
      have hIn8:=aa (hIn'.out.below hSB.out.below (Hh _))
      have hIx8:=aa (hIx.out.below hSB.out.below (Hh _))
      clear f0 f1 f2 f3 q2 hSB
      have hT:=aa (show jp ⟨tks,ks,bs,tt⟩=(if ks.length=0 then [tt] else [])++bs.map Br.to from rfl)
      obtain ⟨w9,hw9,hs9,hb9,hc9,-⟩:=ak w8 #[.int .i64 tt] 3
      clear hc9
      have hb8':=aa (au (Hf w8.heap.size w8) 0)
      obtain ⟨va,wa,hra,hIa,hBa,-⟩:=jS tt (cD.nil_ w8 w8.heap.size) (Hh _) (by decide)
      rw [hw9] at hra
      obtain ⟨Aa,ca,rfl⟩:=hIa.form
      simp only [H5,Hp,HY,HS] at hra hIa
      replace hIa:=aa hIa
      replace hBa:=aa hBa
      replace hs9:=aa hs9
      replace hb9:=aa hb9
      go_upto_if 35 with fail
      go_cut [10,17] from 18 to 96 (fun v lv wx=>∃ B cp,v=.slice B (if ks.length=0 then [tt] else []).length cp∧lv=.bool true∧Hid (cD wx w8.heap.size (.slice B (if ks.length=0 then [tt] else []).length cp) (if ks.length=0 then [tt] else []))∧Hid (Below w8.heap.size w8 wx))
      case first=>
       by_cases h0:ks.length=0
       ·have h0z:((ks.length:Int)==0)=true:=by rw [beq_iff_eq];omega
        replace h0:=aa h0
        go_wp2
        go_meet
        simp only [if_pos h0.out]
        exact ⟨Aa,ca,rfl,trivial,hIa,hBa⟩
       ·have h0z:((ks.length:Int)==0)=false:=by rw [beq_eq_false_iff_ne];omega
        replace h0:=aa h0
        go_wp2
        go_meet
        simp only [if_neg h0.out]
        exact ⟨none,0,rfl,trivial,aa (cD.nil_ _ _),aa (Hf _ _)⟩
      case rest=>
       obtain ⟨B,cp,rfl,rfl,hI0,hBw⟩:=hcut
       have hT1:(if ks.length=0 then [tt] else []).length≤1:=by split<;>simp
       generalize (if ks.length=0 then [tt] else [])=T0 at hI0 hT hT1 ⊢
       clear hra hIa hBa
       go_wp2
       go_loopw [10,11] (fun v j wr=>∃ (j':Nat) (T:List Int) (B:Option Addr) (cp:Nat),j'≤bs.length∧j=.int .i64 j'∧v=.slice B T.length cp∧Hid (T=T0++(bs.take j').map Br.to)∧Hid (cD wr w8.heap.size (.slice B T.length cp) T)∧Hid (Below w8.heap.size w8 wr)) (fun _ j _=>bs.length-(intOf j).toNat)
       case atStart=>exact ⟨0,T0,B,cp,Hm _,rfl,rfl,aa (by simp),hI0,hBw⟩
       case round=>
        obtain ⟨j,T,B,cp,hj,rfl,rfl,hTj,hI,hbw⟩:=hrel
        have hzw:=hbw.out.size
        have kbw:=ah hbw.out
        have t2:=(kbw.1 _ 2 zh).trans z2
        have zhr:=He zh hzw
        have hTl:T.length≤1001:=by rw [hTj.out];simp;omega
        by_cases hlt2:j<bs.length
        ·have hjz:(j:Int)<(bs.length:Int):=by omega
         obtain ⟨gr,ogr,PA,pc,hA4,hgrl,m0,m1,-⟩:=hBs.br hlt2
         subst hA4
         have hkr:gr<w8.heap.size:=by have:=hG8.out.size;omega
         have m1r:=(kbw.1 _ (ogr+j*2+1) hkr).trans ((hG8.out.cell (p:=⟨gr,ogr+j*2+1,none⟩) hgrl).trans m1)
         have hst:=aa (show T0++(bs.take (j+1)).map Br.to=T++ [bs[j].to] from by rw [hTj.out,HR hlt2,List.map_append,HP];rfl)
         generalize bs[j]=x at m1 m1r hst
         obtain ⟨pats,bt⟩:=x
         simp only at m1r hst
         obtain ⟨v',w',hr,hI',hB',-⟩:=jS bt hI.out hzw (by unfold dI;omega)
         obtain ⟨Au,cu,rfl⟩:=hI'.form
         rw [←hst.out] at hI' hr
         obtain ⟨T',hT'⟩:∃ T',T'=T0++(bs.take (j+1)).map Br.to:=⟨_,rfl⟩
         rw [←hT'] at hI' hr
         replace hT':=aa hT'
         have hN':=aa (hbw.out.trans hB')
         replace hI':=aa hI'
         clear hB' hst m1 kbw
         go_wp2
         go_roundw
         case rel=>exact ⟨j+1,T',Au,cu,by omega,by go_num,rfl,hT',hI',hN'⟩
         case measure=>simp [intOf];omega
        ·have hje:j=bs.length:=by omega
         subst hje
         obtain ⟨w10,rfl⟩:∃ w10:World,w10=wr:=⟨_,rfl⟩
         rw [HZ] at hTj
         have hTg:T=bk p.steps (k:Int):=by rw [hgr.out,hT.out,hTj.out]
         have hTm:=aa (fun t (ht:t∈T)=>hg'.out (k:Int) t (by rw [←hTg];exact ht))
         have hPk:=aa (show vJ (bk p.steps) s S' X (N.drop i)=(match lH s S' X T with
          |none=>none
          |some r=>vJ (bk p.steps) s r.1 r.2 (N.drop (i+1))) from by rw [hdr.out,hTg];rfl)
         have hG10:=aa (hG8.out.trans (hbw.out.mono hG8.out.size))
         have hz10:=hG10.out.size
         have hIs10:=aa (hIs8.out.below hbw.out (Hh _))
         have hIn10:=aa (hIn8.out.below hbw.out (Hh _))
         have hIx10:=aa (hIx8.out.below hbw.out (Hh _))
         have hap10:=aa (show Ap (.slice B T.length cp) (.slice As' S'.length cs')∧Ap (.slice B T.length cp) (.slice Ax X.length cx) from ⟨(Ap.of_lt hIs8.out hI.out (Hh _)).symm,(Ap.of_lt hIx8.out hI.out (Hh _)).symm⟩)
         have hIt10:=aa (hI.out.mono hG8.out.size)
         have hNl:=aa hi
         clear hTg z1 z2 z3 zl kbw hI hbw hBw hI0 hTj hT hgr hdr hIs8 hIn8 hIx8 hIs' hIn' hIx hw9 hs9 hb9 hb8' hs8 e0 e1 e2 e3 hcell hSlN hKs hBs hG8
         go_wp2
         clear t2 zh zhr
         go_loopw [5,7,12] (fun sv xv mv wr=>∃ (m:Nat) (S2 X2:List Int) (As2 Ax2:Option Addr) (cs2 cx2:Nat),m≤T.length∧mv=.int .i64 m∧sv=.slice As2 S2.length cs2∧xv=.slice Ax2 X2.length cx2∧Hid (lH s S2 X2 (T.drop m)=lH s S' X T)∧Hid (S2.length=S.length+X2.length)∧Hid (Sb p.steps.length S2)∧Hid (∀ t∈X2,0≤t∧t<p.steps.length)∧Hid (cD wr wz.heap.size (.slice As2 S2.length cs2) S2)∧Hid (cD wr wz.heap.size (.slice (some ⟨b,o,none⟩) N.length cn) N)∧Hid (cD wr wz.heap.size (.slice Ax2 X2.length cx2) X2)∧Hid (cD wr wz.heap.size (.slice B T.length cp) T)∧Hid (Ap (.slice (some ⟨b,o,none⟩) N.length cn) (.slice As2 S2.length cs2)∧Ap (.slice Ax2 X2.length cx2) (.slice As2 S2.length cs2)∧Ap (.slice (some ⟨b,o,none⟩) N.length cn) (.slice Ax2 X2.length cx2)∧Ap (.slice B T.length cp) (.slice As2 S2.length cs2)∧Ap (.slice B T.length cp) (.slice Ax2 X2.length cx2))∧Hid (Below wz.heap.size wz wr)) (fun _ _ mv _=>T.length-(intOf mv).toNat)
         case atStart=>exact ⟨0,S',X,As',Ax,cs',cx,Hm _,rfl,rfl,rfl,aa rfl,hSX,hS',hX,hIs10,hIn10,hIx10,hIt10,aa ⟨hap'.out.1,hap'.out.2.1,hap'.out.2.2,hap10.out.1,hap10.out.2⟩,hG10⟩
         case round=>
          obtain ⟨m,S2,X2,As2,Ax2,cs2,cx2,hm,rfl,rfl,rfl,hP2,hS2X,hSb2,hX2,hJs,hJn,hJx,hJt,hapj,hGj⟩:=hrel
          have hzj:=hGj.out.size
          by_cases hlt3:m<T.length
          ·have hmz:(m:Int)<(T.length:Int):=by omega
           have hdm:=aa (show T.drop m=T[m]::T.drop (m+1) from H4 hlt3)
           have htn:=hTm.out T[m] (Ho hlt3)
           obtain ⟨bT,hBT⟩:=hJt.out.addr (by omega)
           subst hBT
           obtain ⟨hcT,hbT⟩:=hJt.out.cell hlt3
           generalize htv:T[m]=t at htn hcT hdm
           have hstep:=aa (show lH s S2 X2 (t::T.drop (m+1))=lH s S' X T from by rw [←hdm.out];exact hP2.out)
           clear hP2 hdm
           by_cases t1:t=(s:Int)
           ·have hf:RES=true:=by
             have e1:lH s S' X T=none:=by rw [←hstep.out,lH,if_pos t1]
             have e2:=hR'.out
             rw [←hP.out,hPk.out,e1] at e2
             exact e2.symm
            have t1z:(t==(s:Int))=true:=by simpa using t1
            replace hf:=aa hf
            replace t1:=aa t1
            go_wp2
            go_ret
            exact ⟨ad hf.out.symm,hgo.out _ hGj.out⟩
           ·have t1z:(t==(s:Int))=false:=by simpa using t1
            by_cases t2:0≤t
            ·obtain ⟨AS,cS,eS,hSlS⟩:=hJs.out.sl
             injection eS with eS1 eS2 eS3
             subst eS1 eS3
             have hin:=nE As2 cs2 S2 t wr hSlS
             by_cases t3:t∈S2
             ·rw [decide_eq_true t3] at hin
              have hnx:=aa (show lH s S2 X2 (T.drop (m+1))=lH s S' X T from by rw [←hstep.out,lH,if_neg t1,if_neg (fun e=>e.2 t3)])
              replace hin:=aa hin
              clear hSlS
              go_wp2_with (go_at_call 122;refine hin.out.mono ?_;rintro e w' ⟨rfl,rfl⟩)
              go_roundw
              case rel=>exact ⟨m+1,S2,X2,As2,Ax2,cs2,cx2,by omega,by go_num,rfl,rfl,hnx,hS2X,hSb2,hX2,hJs,hJn,hJx,hJt,hapj,hGj⟩
              case measure=>simp [intOf];omega
             ·rw [decide_eq_false t3] at hin
              have hnx:=aa (show lH s (S2++ [t]) (X2++ [t]) (T.drop (m+1))=lH s S' X T from by rw [←hstep.out,lH,if_neg t1,if_pos ⟨t2,t3⟩])
              have hsb:=aa (hSb2.out.add t2 htn t3)
              have hSl2:=hSb2.out.len
              have hXl:=hS2X.out
              have hxb:=aa (show ∀ u∈X2++ [t],0≤u∧u<(p.steps.length:Int) from fun u hu=>by
               rcases H0.1 hu with hu|hu
               ·exact hX2.out u hu
               ·simp at hu;subst hu;exact ⟨t2,htn⟩)
              have hsl3:=aa (show (S2++ [t]).length=S.length+(X2++ [t]).length from by simp only [Hu,Hp,HY];omega)
              obtain ⟨p1,p2,p3,p4,p5⟩:=hapj.out
              obtain ⟨v1,w11,hr1,hI1',hB1',hk1⟩:=jS t hJs.out hzj (by unfold dI;omega)
              obtain ⟨Au,cu,rfl⟩:=hI1'.form
              obtain ⟨j1,q1⟩:=hk1 _ _ hJn.out p1
              obtain ⟨j2,q2⟩:=hk1 _ _ hJx.out p2
              obtain ⟨j3,q3⟩:=hk1 _ _ hJt.out p4
              have hz11:=Hj hzj hB1'.size
              obtain ⟨v2,w12,hr2,hI2',hB2',hk2⟩:=jS t j2 hz11 (by unfold dI;omega)
              obtain ⟨Av,cv,rfl⟩:=hI2'.form
              obtain ⟨r1,o1⟩:=hk2 _ _ j1 p3
              obtain ⟨r2,o2⟩:=hk2 _ _ hI1' q2.symm
              obtain ⟨r3,o3⟩:=hk2 _ _ j3 p5
              obtain ⟨hcT1,hbT1⟩:=j3.cell hlt3
              rw [htv] at hcT1
              obtain ⟨S3,hS3⟩:∃ S3,S3=S2++ [t]:=⟨_,rfl⟩
              obtain ⟨X3,hX3⟩:∃ X3,X3=X2++ [t]:=⟨_,rfl⟩
              rw [←hS3] at hr1 hnx hsb hsl3 q1 q2 q3 hI1' r2 o2
              rw [←hX3] at hr2 hnx hxb hsl3 hI2' o1 o2 o3
              have hfin:=aa (show Ap (.slice (some ⟨b,o,none⟩) N.length cn) (.slice Au S3.length cu)∧Ap (.slice Av X3.length cv) (.slice Au S3.length cu)∧Ap (.slice (some ⟨b,o,none⟩) N.length cn) (.slice Av X3.length cv)∧Ap (.slice (some ⟨bT,0,none⟩) T.length cp) (.slice Au S3.length cu)∧Ap (.slice (some ⟨bT,0,none⟩) T.length cp) (.slice Av X3.length cv) from ⟨q1,o2.symm,o1,q3,o3⟩)
              have hGf:=aa (hGj.out.trans (hB1'.trans hB2'))
              clear hXl
              replace r1:=aa r1
              replace r2:=aa r2
              replace r3:=aa r3
              replace hI2':=aa hI2'
              replace hin:=aa hin
              replace hS3:=aa hS3
              replace hX3:=aa hX3
              clear hSlS hk1 hk2 hB1' hB2' hI1' j1 j2 j3 p1 p2 p3 p4 p5 q1 q2 q3 o1 o2 o3
              go_wp2_with (go_at_call 122;refine hin.out.mono ?_;rintro e w' ⟨rfl,rfl⟩)
              go_roundw
              case rel=>exact ⟨m+1,S3,X3,Au,Av,cu,cv,by omega,by go_num,rfl,rfl,hnx,hsl3,hsb,hxb,r2,r1,hI2',r3,hfin,hGf⟩
              case measure=>simp [intOf];omega
            ·have hnx:=aa (show lH s S2 X2 (T.drop (m+1))=lH s S' X T from by rw [←hstep.out,lH,if_neg t1,if_neg (fun e=>t2 e.1)])
             go_wp2
             go_roundw
             case rel=>exact ⟨m+1,S2,X2,As2,Ax2,cs2,cx2,by omega,by go_num,rfl,rfl,hnx,hS2X,hSb2,hX2,hJs,hJn,hJx,hJt,hapj,hGj⟩
             case measure=>simp [intOf];omega
          ·have hme:m=T.length:=by omega
           subst hme
           have hnx:=aa (show vJ (bk p.steps) s S2 X2 (N.drop (i+1))=vJ (bk p.steps) s S [] N from by
            have e1:=hP2.out
            rw [List.drop_length] at e1
            rw [←hP.out,hPk.out,←e1]
            rfl)
           have hap2:=aa (show Ap (.slice (some ⟨b,o,none⟩) N.length cn) (.slice As2 S2.length cs2)∧Ap (.slice Ax2 X2.length cx2) (.slice As2 S2.length cs2)∧Ap (.slice (some ⟨b,o,none⟩) N.length cn) (.slice Ax2 X2.length cx2) from ⟨hapj.out.1,hapj.out.2.1,hapj.out.2.2.1⟩)
           go_wp2
           go_roundw
           case rel=>exact ⟨i+1,S2,X2,As2,Ax2,cs2,cx2,by omega,by go_num,rfl,rfl,hnx,hS2X,hSb2,hX2,hJs,hJn,hJx,hap2,hGj⟩
           case measure=>simp [intOf];omega
    ·have hie:i=N.length:=by omega
     subst hie
     have hend:=aa (show zn (bk p.steps) s f' S' X=RES from by
      have:=hR'.out
      rw [←hP.out,List.drop_length] at this
      exact this)
     have hsl':=hS'.out.len
     have hfu:=aa (show X= []∨p.steps.length+1≤S'.length+f' from by
      have:=hSX.out
      by_cases hx:X= []
      ·exact .inl hx
      ·have:1≤X.length:=H3.2 hx
       exact .inr (by omega))
     have hms:=hSX.out
     go_wp2
     go_roundw
     case rel=>exact ⟨f',S',X,As',Ax,cs',cx,rfl,rfl,hend,hfu,hS',hX,hIs',hIx,aa hap'.out.2.1.symm,hG'⟩
     case measure=>simp only [BT];omega
end
end Go.Proofs.YtiebolhmdhdagaaGreatDoor

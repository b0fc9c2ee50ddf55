import Derived.Test.YtijcdfdbkffiaaaGreatDoorCbp05
set_option linter.all false
set_option maxHeartbeats 8000000
set_option maxRecDepth 100000
open Go.Proofs.Tryz
namespace Go.Proofs.YtijcdfdbkffiaaaGreatDoor
open _root_.Nat renaming lt_of_lt_of_le→Hr, le_refl→Ht, le_trans→Hw, zero_le→Hz, zero_add→H3
open _root_.Go.RowKit.Below renaming refl→Hs
open _root_.Go.Calls renaming regrown_of→Hv
open _root_.List renaming getElem?_toArray→HB, getElem?_cons_zero→HC, getElem?_cons_succ→HD, length_append→HM, length_cons→HN, getElem_of_mem→H0, take_length→H7, eq_nil_of_length_eq_zero→Ie
open _root_.Go.Sort renaming grow→HG
open _root_.Bool renaming or_eq_true→HS
open Go.RowKit
section
attribute [local go_sem ↓] cH
theorem xz {W:World} {base base':Nat} {v u:Value} {l m:List Int} (hd:ci W base v l) (hs:ci W base' u m) (hb:base≤W.heap.size) (hz:l.length≤dX) (hm:m.length≤dX):
  ∃ v' w',(eh #[23,23] 23 #[v,u]).run prog W=.ok v' w'∧ci w' base v' (l++m)∧Below base W w':=by
 unfold dX at hz hm
 obtain ⟨ii,hii,hzi0,hzi1,hzi2⟩:=info_parts lR
 rcases hs.2 with ⟨rfl,hz0⟩|⟨g,cap,cur,rfl,_,hg,_⟩
 ·have hy:m= []:=Ie hz0
  subst hy
  refine ⟨v,W,?_,by rw [List.append_nil];exact hd,Hs _ _⟩
  unfold eh
  rcases hd.2 with ⟨rfl,hzz⟩|⟨g,cap,cur,rfl,_,_,hnc,_⟩
  ·simp [Builtin.append_,run_underlying underlying23,sizeOf,typeInfo,hii,Builtin.lenOf,Builtin.firstCells]
  ·simp [Builtin.append_,run_underlying underlying23,sizeOf,typeInfo,hii,Builtin.lenOf,Builtin.firstCells,hnc,storeCells]
 ·obtain ⟨v',w',hrun,h2,h3,_,_⟩:=run_append_own_at (P:=prog) W base 23 23 3 ii (.int .i64 0) 1 8 underlying23 hii hzi0 hzi1 hzi2 rfl (by omega) v l.length _ hd ⟨g,0,none⟩ m.length cap (m.map (Value.int .i64)) hs.1
   (fun j x hx=>hs.cells (g:=g) rfl j x hx) (qA m) (by simp [maxLen];omega) (by omega) hb
  exact ⟨v',w',hrun,by unfold ci;simpa using h2,(Hs _ _).grown h3 hb (fun g e=>(hd.lt g e).1)⟩
theorem tO {W:World} {base base':Nat} {u:Value} {m:List Int} (hs:ci W base' u m) (hb:base≤W.heap.size) (hm:m.length≤dX):
  ∃ v' w',(eh #[23,23] 23 #[.slice (some ⟨W.heap.size,0,none⟩) 0 0,u]).run prog (W.alloc (.cells #[] 3))=.ok v' w'∧ci w' base v' m∧Below base W w':=by
 have hd:ci (W.alloc (.cells #[] 3)) base (.slice (some ⟨W.heap.size,0,none⟩) 0 0) []:=World.ownsRow_made W #[] 0 hb (by simp) rfl
 obtain ⟨v',w',h1,h2,h3⟩:=xz hd (World.ownsRow.alloc hs _) (by simp;omega) (by simp) hm
 exact ⟨v',w',h1,h2,((Hs _ _).alloc hb _).trans h3⟩
theorem ow {p:Lp} {act:Int} {st:List Int} {n:Nd} {r:Int×List Int} (h:du p act st n=some r):r.2.length≤st.length:=by
 unfold du at h
 split at h
 ·cases h;exact Ht _
 ·split at h
  ·cases h
  ·split at h
   ·cases h
   ·split at h
    ·cases h;simp
    ·split at h
     ·cases h
     ·cases h;simp;omega
theorem xA {p:Lp} {act:Int} {st st':List Int} {n:Nd} (h:dG p act st n=some st'):st'.length≤st.length+1:=by
 unfold dG at h
 cases hd:du p act st n with
 |none=>rw [hd] at h;cases h
 |some r=>
  obtain ⟨w,s⟩:=r
  have:=ow hd
  rw [hd] at h
  simp only at h this
  split at h
  ·injection h with h;subst h;simp;omega
  ·cases h
theorem ox {p:Lp} {act:Int}:∀ (c:List Nd) (st st':List Int),bD (dG p act) st c=some st'→st'.length≤st.length+c.length
 | [],st,st',h=>by simp only [bD] at h;injection h with h;subst h;simp
 |n::c,st,st',h=>by
  simp only [bD] at h
  cases hn:dG p act st n with
  |none=>rw [hn] at h;cases h
  |some s=>
   rw [hn] at h
   have h1:=ox c s st' h
   have h2:=xA hn
   simp only [HN];omega
theorem xB {p:Lp} {act:Int} (c:List Nd) (st st':List Int) (hc:sQ c) (h:bD (dG p act) st c=some st') (hs:∀ x∈st,aj x=true):∀ x∈st',aj x=true:=
 kZ (p:=p) (act:=act) c st st' (by rw [kY p act c st hc];exact h) hs
theorem fY (A1 A2 A3 A4 A5 A6 A7 A8 A9 A10 A11 A12:Option Addr) (p:Lp) (c1 c2 c3 c4 c5 c6 c7 c8 c9 c10 c11 c12:Nat) (act:Int) (c:List Nd) (A:Option Addr) (cap:Nat) (w:World) (h:cz w w.heap.size A1 A2 A3 A4 A5 A6 A7 A8 A9 A10 A11 A12 p) (hc:Sl 6 zo w w.heap.size A c):
  Calls prog 55 #[.agg (aO A1 A2 A3 A4 A5 A6 A7 A8 A9 A10 A11 A12 p c1 c2 c3 c4 c5 c6 c7 c8 c9 c10 c11 c12),.int .i64 act,.slice A c.length cap] w fun e w'=>e=.returned (Cc (iJ p act c))∧Below w.heap.size w w':=by
 unfold aO
 have hlen:=hc.len
 have hok:sQ c:=fun n hn=>by
  obtain ⟨i,hi,rfl⟩:=H0 hn
  obtain ⟨_,_,_,_,_,_,_,_,_,_,u,_⟩:=hc.node hi
  exact u.1
 obtain ⟨wz,hwz,hsz,hbz,hcz,-⟩:=af w (aO A1 A2 A3 A4 A5 A6 A7 A8 A9 A10 A11 A12 p c1 c2 c3 c4 c5 c6 c7 c8 c9 c10 c11 c12) 33
 replace hbz:=aa hbz
 by_cases h6:65536<c.length
 ·have h6z:(65536:Int)<(c.length:Int):=by omega
  have hv:=aa (show iJ p act c=none from by simp [iJ,B6,h6])
  clear hcz h hc
  go_enter func55,ntmps55
  go_wp2
  exact bodyPost_ret (results_tmp2 rfl _ _ _) rfl ⟨by rw [hv.out]<;>rfl,hbz.out⟩
 ·have h6z:¬(65536:Int)<(c.length:Int):=by omega
  go_enter func55,ntmps55
  go_upto_region 4 with fail
  obtain ⟨wa,hwa,hsa,hba,hca,-⟩:=af wz #[.int .u64 0,.int .u64 0] 96
  have Y:=fun i=>(bj hba w.heap.size i (by omega)).trans (hcz i)
  rw [hsz] at hca
  have v0:wa.cell? ⟨w.heap.size+1,0,none⟩=some (.int .u64 0):=hca 0
  have v1:wa.cell? ⟨w.heap.size+1,1,none⟩=some (.int .u64 0):=hca 1
  have hbw:Below w.heap.size w wa:=hbz.out.trans (hba.mono (by omega))
  have hP:=aa (h.below hbw)
  have hC:=aa (hc.below bm hbw)
  replace hbw:=aa hbw
  have hl2:w.heap.size+1<wa.heap.size:=by omega
  replace hsa:=aa hsa
  clear hca hcz hba h hc
  go_wp2
  go_loopw [9,10,11,12,13] (fun sv iv _ _ _ wr=>∃ (k:Nat) (st:List Int) (B:Option Addr) (cp:Nat),k≤c.length∧iv=.int .i64 k∧sv=.slice B st.length cp∧Hid (bD (dG p act) [] (c.take k)=some st)∧Hid (ci wr wa.heap.size (.slice B st.length cp) st.reverse)∧Hid (Below wa.heap.size wa wr)) (fun _ iv _ _ _ _=>c.length-(intOf iv).toNat)
  case atStart=>exact ⟨0,[],none,0,Hz _,rfl,rfl,aa rfl,aa (ci.nil_ _ _),aa (Hs _ _)⟩
  case round=>
   obtain ⟨k,st,B,cp,hk,rfl,rfl,hf,hS,hG⟩:=hrel
   have hwr:=hG.out.size
   have hgo:∀ W,Below wa.heap.size wa W→Below w.heap.size w W:=fun W hW=>hbw.out.trans (hW.mono (by omega))
   by_cases hlt:k<c.length
   focus
    have hltz:(k:Int)<(c.length:Int):=by omega
    obtain ⟨b',o',rfl,hb',n0,n1,n2,n3,n4,n5,u1,u2,u3⟩:=(hC.out.below bm (hG.out.mono (by omega))).node hlt
    have hst60:st.length≤65536:=by have:=ox _ _ _ hf.out;simp at this;omega
    have hpos:=xB _ _ _ (fun n hn=>hok n (List.mem_of_mem_take hn)) hf.out (by simp)
    have hns:=fun st' (h:dG p act st c[k]=some st')=>lU (st':=st') hlt hf.out h
    have hnn:=fun (h:dG p act st c[k]=none)=>show iJ p act c=none from by unfold iJ B6;rw [if_neg (by omega),lV hlt hf.out h];rfl
    generalize hnk:c[k]=n at*
    obtain ⟨op,nw,a,b,hi,lo⟩:=n
    simp only at n0 n1 n2 n3 n4 n5 u1 u2 u3
    replace hns:=aa hns
    replace hnn:=aa hnn
    replace hnk:=aa hnk
    obtain ⟨wn,hwn,hsn,hbn,hcn,-⟩:=af wr #[.int .u8 op,.int .i64 nw,.int .i64 a,.int .i64 b,.int .u64 hi,.int .u64 lo] 98
    have m0:wn.cell? ⟨wr.heap.size,0,none⟩=some (.int .u8 op):=hcn 0
    have m1:wn.cell? ⟨wr.heap.size,1,none⟩=some (.int .i64 nw):=hcn 1
    have m2:wn.cell? ⟨wr.heap.size,2,none⟩=some (.int .i64 a):=hcn 2
    have m3:wn.cell? ⟨wr.heap.size,3,none⟩=some (.int .i64 b):=hcn 3
    have m4:wn.cell? ⟨wr.heap.size,4,none⟩=some (.int .u64 hi):=hcn 4
    have m5:wn.cell? ⟨wr.heap.size,5,none⟩=some (.int .u64 lo):=hcn 5
    have hrn:Below wa.heap.size wr wn:=hbn.mono hwr
    have q0:=(hrn.cell (p:=⟨w.heap.size+1,0,none⟩) hl2).trans ((hG.out.cell (p:=⟨w.heap.size+1,0,none⟩) hl2).trans v0)
    have q1:=(hrn.cell (p:=⟨w.heap.size+1,1,none⟩) hl2).trans ((hG.out.cell (p:=⟨w.heap.size+1,1,none⟩) hl2).trans v1)
    have Yn:=aa (fun i=>(bj hrn w.heap.size i (by omega)).trans ((bj hG.out w.heap.size i (by omega)).trans (Y i)))
    have hPn:=aa (((hP.out.below (hG.out.mono (by omega))).below (hrn.mono (by omega))).more (B':=wn.heap.size) (by omega))
    have hSn:=aa (hS.out.below hbn (Ht _))
    have hGn:=aa (hG.out.trans hrn)
    have hwrn:wr.heap.size<wn.heap.size:=by omega
    have hwl:w.heap.size<wn.heap.size:=by omega
    have hgw:=aS (show Below wn.heap.size wn wn from Hs _ _) (Ht _)
    have hng:∀ W,Below wn.heap.size wn W→Below w.heap.size w W:=fun W hW=>hgo W (hGn.out.trans (hW.mono (by omega)))
    replace hng:=aa hng
    replace hsn:=aa hsn
    replace hf:=aa hf.out
    clear hcn hbn hrn hS hf hG
    go_upto_block 2 with (fail)
    go_cut [9,12,13] (fun sv wv _ wx=>∃ (r:Int) (st':List Int) (B':Option Addr) (cp':Nat),wv=.int .i64 r∧sv=.slice B' st'.length cp'∧Hid (du p act st ⟨op,nw,a,b,hi,lo⟩=some (r,st'))∧Hid (ci wx wa.heap.size (.slice B' st'.length cp') st'.reverse)∧Hid (Below wn.heap.size wn wx))
    case first=>
     by_cases h16:1≤op∧op≤6
     ·have hd:=aa (show du p act st ⟨op,nw,a,b,hi,lo⟩=some (vI p act ⟨op,nw,a,b,hi,lo⟩,st) from by unfold du;exact if_pos h16)
      obtain ⟨h1,h2⟩:=h16
      have hV:=th A1 A2 A3 A4 A5 A6 A7 A8 A9 A10 A11 A12 p c1 c2 c3 c4 c5 c6 c7 c8 c9 c10 c11 c12 act ⟨op,nw,a,b,hi,lo⟩ wn hPn.out ⟨u2,u3⟩
      simp only at hV
      generalize vI p act ⟨op,nw,a,b,hi,lo⟩=G at hV hd
      replace hV:=aa hV
      have y0:=Yn.out 0
      have y1:=Yn.out 1
      have y2:=Yn.out 2
      have y3:=Yn.out 3
      have y4:=Yn.out 4
      have y5:=Yn.out 5
      have y6:=Yn.out 6
      have y7:=Yn.out 7
      have y8:=Yn.out 8
      have y9:=Yn.out 9
      have y10:=Yn.out 10
      have y11:=Yn.out 11
      simp only [HB,HC,HD] at y0 y1 y2 y3 y4 y5 y6 y7 y8 y9 y10 y11
      go_wp2_with (go_at_call 108;refine hV.out.mono ?_;rintro e w3 ⟨rfl,hb3⟩)
      go_meet
      exact ⟨G,st,B,cp,rfl,rfl,hd,aa (hSn.out.below hb3 (Ht _)),aa hb3⟩
     ·by_cases hv:hi=0∧lo=0
      ·obtain ⟨rfl,rfl⟩:=hv
       have hlow:(1≤op∧op≤6)=False:=eq_false h16
       match st,hSn,hpos,hst60,hns,hnn with
       | [],hSn,hpos,hst60,hns,hnn=>
        have hd:=aa (hnn.out (by unfold dG du;rw [if_neg h16];simp))
        clear hns hnn hpos
        go_wp2
        all_goals first|(exfalso;omega)|exact bodyPost_ret (results_tmp2 rfl _ _ _) rfl ⟨by rw [hd.out]<;>rfl,hng.out _ (Hs _ _)⟩
       | [w1],hSn,hpos,hst60,hns,hnn=>
        have hw1:=(aC w1).1 (hpos w1 (by simp))
        clear hpos
        obtain ⟨g,cap',e,hc1,hcm,hx,hI⟩:=ci.pop (l:= []) (x:=w1) hSn.out
        injection e with e3 e4 e5
        subst e3 e5
        simp only [List.length_nil] at hx hc1
        have hgl:=World.block_lt_of_cell? wn _ hx
        simp only at hgl
        by_cases ho:cj op=true
        ·have hd:=aa (show du p act [w1] ⟨op,nw,a,b,0,0⟩=some (oS ⟨op,nw,a,b,0,0⟩ w1,[]) from by unfold du;rw [if_neg h16];simp [ho])
         have hX:∀ d os,Hid (Calls prog 109 #[.agg #[.int .u8 op,.int .i64 nw,.int .i64 a,.int .i64 b,.int .u64 0,.int .u64 0],.int .i64 w1] (HG (redrawn wn d) os) _):=fun d os=>aa (jQ ⟨op,nw,a,b,0,0⟩ w1 _ ho hw1)
         generalize oS ⟨op,nw,a,b,0,0⟩ w1=G at hX hd
         simp only [cj,HS,decide_eq_true_eq] at ho
         have hop:op=7∨op=8∨op=9∨op=13∨op=14:=by omega
         clear ho hns hnn
         replace hI:=aa hI
         rcases hop with rfl|rfl|rfl|rfl|rfl
         all_goals
          go_upto_region 22 with fail
          refine cR ?_
          repeat (any_goals (first|go_big_quiet_step ((go_at_call 109;with_reducible exact Hv (hX _ _).out))|quiet_step ((go_at_call 109;with_reducible exact Hv (hX _ _).out))))
          refine wpQuiet_nil ?_
          intro wq hwq
          replace hwq:=ac hwq
          go_wp2
          go_meet
          exact ⟨G,[],some ⟨g,0,none⟩,cp,rfl,rfl,hd,aa (hI.out.below hwq (Ht _)),aa hwq⟩
        ·have hd:=aa (hnn.out (by unfold dG du;rw [if_neg h16];simp [ho]))
         simp only [cj,HS,decide_eq_true_eq,not_or] at ho
         obtain ⟨⟨⟨⟨k7,k8⟩,k9⟩,k13⟩,k14⟩:=ho
         have l7:=beq_eq_false_iff_ne.2 k7
         have l8:=beq_eq_false_iff_ne.2 k8
         have l9:=beq_eq_false_iff_ne.2 k9
         have l13:=beq_eq_false_iff_ne.2 k13
         have l14:=beq_eq_false_iff_ne.2 k14
         clear hns hnn
         go_wp2
         all_goals first|(exfalso;omega)|exact bodyPost_ret (results_tmp2 rfl _ _ _) rfl ⟨by rw [hd.out]<;>rfl,hng.out _ (Hs _ _)⟩
       |w1::v1::st,hSn,hpos,hst60,hns,hnn=>
        have hw1:=(aC w1).1 (hpos w1 (by simp))
        have hv1:=(aC v1).1 (hpos v1 (by simp))
        clear hpos
        simp only [HN] at hst60
        have hp1:ci wn wa.heap.size (.slice B (w1::v1::st).length cp) ((v1::st).reverse++ [w1]):=by rw [←List.reverse_cons];exact hSn.out
        obtain ⟨g,cap',e,hc1,hcm,hx,hI⟩:=hp1.pop
        have hp2:ci wn wa.heap.size (.slice (some ⟨g,0,none⟩) (v1::st).reverse.length cap') (st.reverse++ [v1]):=by rw [←List.reverse_cons];exact hI
        obtain ⟨g2,cap2,e2,hc2,hcm2,hx2,hI2⟩:=hp2.pop
        injection e with e3 e4 e5
        injection e2 with e6 e7 e8
        injection e6 with e6
        injection e6 with e6
        subst e3 e5 e6 e8
        simp only [List.length_reverse,HN] at hx hx2 hc1 hI hI2
        have hgl:=World.block_lt_of_cell? wn _ hx
        simp only at hgl
        by_cases ho:cj op=true
        ·have hd:=aa (show du p act (w1::v1::st) ⟨op,nw,a,b,0,0⟩=some (oS ⟨op,nw,a,b,0,0⟩ w1,v1::st) from by unfold du;rw [if_neg h16];simp [ho])
         have hX:∀ d os,Hid (Calls prog 109 #[.agg #[.int .u8 op,.int .i64 nw,.int .i64 a,.int .i64 b,.int .u64 0,.int .u64 0],.int .i64 w1] (HG (redrawn wn d) os) _):=fun d os=>aa (jQ ⟨op,nw,a,b,0,0⟩ w1 _ ho hw1)
         generalize oS ⟨op,nw,a,b,0,0⟩ w1=G at hX hd
         simp only [cj,HS,decide_eq_true_eq] at ho
         have hop:op=7∨op=8∨op=9∨op=13∨op=14:=by omega
         clear ho hns hnn
         replace hI:=aa (show ci wn wa.heap.size (.slice (some ⟨g,0,none⟩) (st.length+1) cp) (v1::st).reverse from hI)
         rcases hop with rfl|rfl|rfl|rfl|rfl
         all_goals
          go_upto_region 22 with fail
          refine cR ?_
          repeat (any_goals (first|go_big_quiet_step ((go_at_call 109;with_reducible exact Hv (hX _ _).out))|quiet_step ((go_at_call 109;with_reducible exact Hv (hX _ _).out))))
          refine wpQuiet_nil ?_
          intro wq hwq
          replace hwq:=ac hwq
          go_wp2
          go_meet
          exact ⟨G,v1::st,some ⟨g,0,none⟩,cp,rfl,rfl,hd,aa (hI.out.below hwq (Ht _)),aa hwq⟩
        ·have hd:=aa (show du p act (w1::v1::st) ⟨op,nw,a,b,0,0⟩=some (DK ⟨op,nw,a,b,0,0⟩ v1 w1,st) from by unfold du;rw [if_neg h16];simp [ho])
         have hX:∀ d os,Hid (Calls prog 110 #[.agg #[.int .u8 op,.int .i64 nw,.int .i64 a,.int .i64 b,.int .u64 0,.int .u64 0],.int .i64 v1,.int .i64 w1] (HG (redrawn wn d) os) _):=fun d os=>aa (wF ⟨op,nw,a,b,0,0⟩ v1 w1 _ hv1 hw1)
         generalize DK ⟨op,nw,a,b,0,0⟩ v1 w1=G at hX hd
         simp only [cj,HS,decide_eq_true_eq,not_or] at ho
         obtain ⟨⟨⟨⟨k7,k8⟩,k9⟩,k13⟩,k14⟩:=ho
         have l7:=beq_eq_false_iff_ne.2 k7
         have l8:=beq_eq_false_iff_ne.2 k8
         have l9:=beq_eq_false_iff_ne.2 k9
         have l13:=beq_eq_false_iff_ne.2 k13
         have l14:=beq_eq_false_iff_ne.2 k14
         clear hns hnn
         replace hI2:=aa hI2
         go_upto_region 13 with fail
         all_goals first|(exfalso;omega)|skip
         all_goals
          refine cR ?_
          repeat (any_goals (first|go_big_quiet_step ((go_at_call 110;with_reducible exact Hv (hX _ _).out))|quiet_step ((go_at_call 110;with_reducible exact Hv (hX _ _).out))))
          refine wpQuiet_nil ?_
          intro wq hwq
          replace hwq:=ac hwq
          go_wp2
          go_meet
          exact ⟨G,st,some ⟨g,0,none⟩,cp,rfl,rfl,hd,aa (hI2.out.below hwq (Ht _)),aa hwq⟩
      ·have hd:=aa (hnn.out (by unfold dG du;rw [if_neg h16,if_pos hv]))
       clear hns hnn hpos
       by_cases e1:hi=0
       ·have e2:¬lo=0:=fun g=>hv ⟨e1,g⟩
        subst e1
        go_wp2
        all_goals first|(exfalso;omega)|exact bodyPost_ret (results_tmp2 rfl _ _ _) rfl ⟨by rw [hd.out]<;>rfl,hng.out _ (Hs _ _)⟩
       ·go_wp2
        all_goals first|(exfalso;omega)|exact bodyPost_ret (results_tmp2 rfl _ _ _) rfl ⟨by rw [hd.out]<;>rfl,hng.out _ (Hs _ _)⟩
    case rest=>
     obtain ⟨r,st1,B1,cp1,rfl,rfl,hd,hS1,hbc⟩:=hcut
     have m1c:=(hbc.out.cell (p:=⟨wr.heap.size,1,none⟩) hwrn).trans m1
     have hlc:=Hr hwrn hbc.out.size
     have hl1:=ow hd.out
     simp only at hl1
     have hnn':=fun (h:¬(r=nw∧aj r=true))=>hnn.out (by unfold dG;rw [hd.out];simp only [if_neg h])
     have hns':=fun (h:r=nw∧aj r=true)=>hns.out (r::st1) (by unfold dG;rw [hd.out];simp only [if_pos h])
     have hWd:=o0 r
     clear hns hnn hd m0 m1 m2 m3 m4 m5 n0 n1 n2 n3 n4 n5 q0 q1 Yn hPn hSn hgw
     by_cases e1:r=nw
     ·subst e1
      generalize aj r=z1 at hnn' hns' hWd
      cases z1 with
      |false=>
       replace hnn':=aa (hnn' fun g=>by cases g.2)
       clear hns'
       go_wp2_with (go_at_call 103;refine (hWd _).mono ?_;rintro e w' ⟨rfl,rfl⟩)
       exact bodyPost_ret (results_tmp2 rfl _ _ _) rfl ⟨by rw [hnn'.out]<;>rfl,hng.out _ hbc.out⟩
      |true=>
       replace hns':=aa (hns' ⟨rfl,rfl⟩)
       clear hnn'
       have hzc:wa.heap.size≤wc.heap.size:=Hw hwr (by omega)
       obtain ⟨v2,w2,hr2,hI2,hB2⟩:=tO hS1.out hzc (by simp [dX];omega)
       obtain ⟨A2',c2',rfl⟩:=hI2.form
       obtain ⟨v3,w3,hr3,hI3,hB3⟩:=iV r hI2 (Hw hzc hB2.size) (by simp [dX];omega)
       obtain ⟨A3',c3',rfl⟩:=hI3.form
       rw [←List.reverse_cons] at hI3
       simp only [HM,List.length_reverse,HN,List.length_nil,H3] at hr2 hr3 hI3
       have hN:=aa (hGn.out.trans ((hbc.out.mono (by omega)).trans (hB2.trans hB3)))
       replace hI3:=aa hI3
       clear hI2 hB2 hB3 hS1
       go_wp2_with (go_at_call 103;refine (hWd _).mono ?_;rintro e w' ⟨rfl,rfl⟩)
       go_roundw
       case rel=>exact ⟨k+1,r::st1,A3',c3',by omega,by go_num,rfl,hns',hI3,hN⟩
       case measure=>simp [intOf];omega
     ·replace hnn':=aa (hnn' fun g=>e1 g.1)
      clear hns'
      go_wp2
      exact bodyPost_ret (results_tmp2 rfl _ _ _) rfl ⟨by rw [hnn'.out]<;>rfl,hng.out _ hbc.out⟩
   rotate_right
   focus
    have hke:k=c.length:=by omega
    subst hke
    rw [H7] at hf
    obtain ⟨A',cap',e,hSl⟩:=hS.out.sl
    injection e with e1 e2 e3
    subst e1 e3
    clear e2
    have hv:=aa (show iJ p act c=qh (some st) from by unfold iJ B6;rw [if_neg (by omega),hf.out])
    have hbE:=aa (hgo _ hG.out)
    have hx:st.length=1→∃ x,st= [x]:=fun h=>by
     match st,h with
     | [x],_=>exact ⟨x,rfl⟩
    by_cases h1:st.length=1
    focus
     obtain ⟨x,rfl⟩:=hx h1
     obtain ⟨b,o,rfl,hb,hcx⟩:=hSl.int (i:=0) (by simp)
     simp only [List.reverse_cons,List.reverse_nil,List.nil_append,List.getElem_cons_zero,Nat.add_zero] at hcx
    rotate_right
    focus
     have hln:st.length≤9223372036854775807:=by have:=hSl.len;simpa using this
     have hne:((st.length:Int)==1)=false:=by rw [beq_eq_false_iff_ne];omega
     have hl0:qh (some st)=none:=by
      match st,h1 with
      | [],_=>rfl
      | [x],h1=>exact absurd rfl h1
      |x::y::l,_=>rfl
     rw [hl0] at hv
   all_goals
    clear hx hSl hS
    go_wp2
    exact bodyPost_ret (results_tmp2 rfl _ _ _) rfl ⟨by rw [hv.out]<;>rfl,hbE.out⟩
end
end Go.Proofs.YtijcdfdbkffiaaaGreatDoor

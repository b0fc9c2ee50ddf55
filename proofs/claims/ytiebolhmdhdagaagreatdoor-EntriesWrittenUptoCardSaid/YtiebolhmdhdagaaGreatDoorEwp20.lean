import Derived.Test.YtiebolhmdhdagaaGreatDoorEwp19
set_option linter.all false
set_option maxHeartbeats 8000000
set_option maxRecDepth 100000
open Go.Proofs.Tryz
namespace Go.Proofs.YtiebolhmdhdagaaGreatDoor
open _root_.Nat renaming lt_of_lt_of_le→He, le_refl→Hh, zero_le→Hm, add_zero→HU
open _root_.Go.RowKit.Below renaming refl→Hf
open _root_.Bool renaming false_and→Hg, true_and→Hk, and_eq_true→Hl
open _root_.List renaming getElem?_eq_getElem→Hn, length_append→Hu, all_eq_true→Hx, getElem?_toArray→HH, getElem?_cons_zero→HK, getElem?_cons_succ→HM, take_succ_eq_append_getElem→HR, take_length→HZ, drop_eq_getElem_cons→H4
open Go.RowKit
theorem nU {l:List Int} {k:Nat} (hk:k<l.length):fv (l.take (k+1))=fv (l.take k)+(if l[k]=2 then 1 else 0):=by
 unfold fv
 rw [HR hk,List.filter_append,Hu]
 by_cases h:l[k]=2<;>simp [h]
theorem Sl.byte {w:World} {B:Nat} {A:Option Addr} {xs:List Int} (h:Sl 1 Ct w B A xs) {i:Nat} (hi:i<xs.length):∃ b o,A=some ⟨b,o,none⟩∧b<B∧w.cell? ⟨b,o+i,none⟩=some (.int .u8 xs[i]):=by
 obtain ⟨b,o,u,hA,hb,hc,hr⟩:=h.at1 hi
 cases hr
 exact ⟨b,o,hA,hb,hc⟩
theorem uS (A1 A2 A3 A4 A5 A6 A7 A8 A9 A10 A11 A12:Option Addr) (p:Lp) (c1 c2 c3 c4 c5 c6 c7 c8 c9 c10 c11 c12:Nat) (t:eF) (P1 P2 P3 P4:Option Addr) (d1 d2 d3 d4:Nat) (w:World) (h:cJ w w.heap.size A1 A2 A3 A4 A5 A6 A7 A8 A9 A10 A11 A12 p) (h1:Sl 1 ro w w.heap.size P1 t.keys) (h2:Sl 1 Ct w w.heap.size P2 t.kinds) (h3:Sl 1 bd w w.heap.size P3 t.acts) (h4:Sl 2 ke w w.heap.size P4 t.run.args) (h5:t.keys.length≤sm):
  Calls prog 55 #[.agg #[.slice A1 p.heads.length c1,.slice A2 p.metas.length c2,.slice A3 p.steps.length c3,.slice A4 p.acts.length c4,.slice A5 p.tabs.length c5,.slice A6 p.control.length c6,.slice A7 p.emit.length c7,.slice A8 p.nh.length c8,.slice A9 p.nf.length c9,.slice A10 p.nm.length c10,.slice A11 p.na.length c11,.slice A12 p.nt.length c12],.agg #[.slice P1 t.keys.length d1,.slice P2 t.kinds.length d2,.slice P3 t.acts.length d3,.int .i64 t.run.act,.slice P4 t.run.args.length d4]] w fun e w'=>e=.returned (.bool (iO p t))∧Below w.heap.size w w':=by
 obtain ⟨ks,kinds,acts,ra,rg⟩:=t
 simp only at h1 h2 h3 h4 h5 ⊢
 have lt1:=h1.len
 have lt2:=h2.len
 have lt3:=h3.len
 have la:=h.acts.len
 obtain ⟨wz,hwz,hsz,hbz,hcz,-⟩:=ak w #[.slice A1 p.heads.length c1,.slice A2 p.metas.length c2,.slice A3 p.steps.length c3,.slice A4 p.acts.length c4,.slice A5 p.tabs.length c5,.slice A6 p.control.length c6,.slice A7 p.emit.length c7,.slice A8 p.nh.length c8,.slice A9 p.nf.length c9,.slice A10 p.nm.length c10,.slice A11 p.na.length c11,.slice A12 p.nt.length c12] 33
 obtain ⟨wa,hwa,hsa,hba,hca,-⟩:=ak wz #[.slice P1 ks.length d1,.slice P2 kinds.length d2,.slice P3 acts.length d3,.int .i64 ra,.slice P4 rg.length d4] 108
 have Y:=fun i=>(bH hba w.heap.size i (by omega)).trans (hcz i)
 rw [hsz] at hca
 have k1:w.heap.size<wa.heap.size:=by omega
 have k2:w.heap.size+1<wa.heap.size:=by omega
 have hw:Below w.heap.size w wa:=hbz.trans (hba.mono (by omega))
 have x0:wa.cell? ⟨w.heap.size+1,0,none⟩=some (.slice P1 ks.length d1):=hca 0
 have x1:wa.cell? ⟨w.heap.size+1,1,none⟩=some (.slice P2 kinds.length d2):=hca 1
 have x2:wa.cell? ⟨w.heap.size+1,2,none⟩=some (.slice P3 acts.length d3):=hca 2
 have x3:wa.cell? ⟨w.heap.size+1,3,none⟩=some (.int .i64 ra):=hca 3
 have x4:wa.cell? ⟨w.heap.size+1,4,none⟩=some (.slice P4 rg.length d4):=hca 4
 have y0:=Y 0
 have y1:=Y 1
 have y2:=Y 2
 have y3:=Y 3
 have y4:=Y 4
 have y5:=Y 5
 have y6:=Y 6
 have y7:=Y 7
 have y8:=Y 8
 have y9:=Y 9
 have y10:=Y 10
 have y11:=Y 11
 simp only [HH,HK,HM] at y0 y1 y2 y3 y4 y5 y6 y7 y8 y9 y10 y11
 have hK:=sQ A1 A2 A3 A4 A5 A6 A7 A8 A9 A10 A11 A12 p c1 c2 c3 c4 c5 c6 c7 c8 c9 c10 c11 c12 ks P1 d1 wa ((h.below hw).more hw.size) ((h1.below aS hw).more aS hw.size) h5
 have hP:=aa ((h.below hw).more (B':=wa.heap.size) hw.size)
 have hk:=aa ((h2.below bX hw).more (B':=wa.heap.size) bX hw.size)
 have hA:=aa ((h3.below ai hw).more (B':=wa.heap.size) ai hw.size)
 have hG:=aa ((h4.below aw hw).more (B':=wa.heap.size) aw hw.size)
 have hv0:=aa (show iO p ⟨ks,kinds,acts,⟨ra,rg⟩⟩=((gz (fk p (-1)) ks).isSome&&decide (ks.length≤4)&& !decide (ks.length=0)&&decide (kinds.length=ks.length)&&am (aK cZ kinds) kinds.length&&decide (fv kinds≤1)&&
  decide (1≤acts.length)&&decide (acts.length≤16)&&oG acts p.acts.length&&dD p acts ⟨ra,rg⟩) from rfl)
 replace hw:=aa hw
 replace hsa:=aa hsa
 unfold sP at hK
 clear Y hca hcz hba hbz h h1 h2 h3 h4
 go_enter func55,ntmps55
 cases ho:gz (fk p (-1)) ks with
 |none=>
  rw [ho] at hK hv0
  replace hK:=aa hK
  go_wp2_with (go_at_call 104;refine hK.out.mono ?_;rintro e w3 ⟨rfl,hb3⟩)
  go_ret
  exact ⟨ad hv0.out.symm,hw.out.trans (hb3.mono hw.out.size)⟩
 |some ws=>
  rw [ho] at hK hv0
  simp only [Option.isSome_some,Hk] at hv0
  replace hK:=aa hK
  go_upto_region 2 with (go_at_call 104;refine hK.out.mono ?_;rintro e w3 ⟨⟨B,cp,rfl,-⟩,hb3⟩)
  have hD:=hb3
  have x0d:=(hD.cell (p:=⟨w.heap.size+1,0,none⟩) k2).trans x0
  have x1d:=(hD.cell (p:=⟨w.heap.size+1,1,none⟩) k2).trans x1
  have x2d:=(hD.cell (p:=⟨w.heap.size+1,2,none⟩) k2).trans x2
  have x3d:=(hD.cell (p:=⟨w.heap.size+1,3,none⟩) k2).trans x3
  have x4d:=(hD.cell (p:=⟨w.heap.size+1,4,none⟩) k2).trans x4
  have Yd:=fun i=>hD.cell (p:=⟨w.heap.size,i,none⟩) k1
  have t0:=(Yd 0).trans y0
  have t1:=(Yd 1).trans y1
  have t2:=(Yd 2).trans y2
  have t3:=(Yd 3).trans y3
  have t4:=(Yd 4).trans y4
  have t5:=(Yd 5).trans y5
  have t6:=(Yd 6).trans y6
  have t7:=(Yd 7).trans y7
  have t8:=(Yd 8).trans y8
  have t9:=(Yd 9).trans y9
  have t10:=(Yd 10).trans y10
  have t11:=(Yd 11).trans y11
  have hPd:=(hP.out.below hD).more hD.size
  have hkd:=aa ((hk.out.below bX hD).more (B':=w3.heap.size) bX hD.size)
  have hAd:=(hA.out.below ai hD).more (B':=w3.heap.size) ai hD.size
  have hGd:=(hG.out.below aw hD).more (B':=w3.heap.size) aw hD.size
  have hR:=nF A1 A2 A3 A4 A5 A6 A7 A8 A9 A10 A11 A12 p c1 c2 c3 c4 c5 c6 c7 c8 c9 c10 c11 c12 P3 P4 d3 d4 acts ⟨ra,rg⟩ w3 hPd hAd hGd
  have hDi:=jM P3 d3 acts p.acts.length w3 hAd
  simp only at hR
  generalize dD p acts ⟨ra,rg⟩=R at hR hv0
  generalize oG acts p.acts.length=S at hDi hv0
  replace hR:=aa hR
  replace hDi:=aa hDi
  have hbw:=aa (hw.out.trans (hD.mono hw.out.size))
  clear hD hb3 Yd hPd hAd hGd y0 y1 y2 y3 y4 y5 y6 y7 y8 y9 y10 y11 x0 x1 x2 x3 x4 hK
  by_cases a1:ks.length≤4
  ·have a1b:=decide_eq_true a1
   rw [a1b,Hk] at hv0
   rw [a1b]
   by_cases a2:ks.length=0
   ·have a2z:((ks.length:Int)==0)=true:=by rw [beq_iff_eq];omega
    rw [decide_eq_true a2,Bool.not_true,Hg,Hg,Hg,Hg,Hg,Hg,Hg] at hv0
    replace a2:=aa a2
    go_wp2
    go_ret
    exact ⟨ad hv0.out.symm,hbw.out⟩
   ·have a2z:((ks.length:Int)==0)=false:=by rw [beq_eq_false_iff_ne];omega
    rw [decide_eq_false a2,Bool.not_false,Hk] at hv0
    by_cases a3:kinds.length=ks.length
    ·have a3z:((kinds.length:Int) !=(ks.length:Int))=false:=by rw [a3];exact bne_self_eq_false _
     rw [decide_eq_true a3,Hk] at hv0
     replace a3:=aa a3
     go_wp2
     go_loop [7,9,37] (fun s _ i=>∃ (k n:Nat),k≤kinds.length∧i=.int .i64 k∧s=.int .i64 n∧n≤k∧Hid (fv (kinds.take k)=n)∧Hid (am (aK cZ kinds) k=true)) (fun _ _ i=>kinds.length-(intOf i).toNat)
     case atStart=>exact ⟨0,0,Hm _,rfl,rfl,Hh _,aa rfl,aa rfl⟩
     case round=>
      obtain ⟨k,n,hk1,rfl,rfl,hnk,hn,hc⟩:=hrel
      by_cases hlt:k<kinds.length
      ·obtain ⟨b,o,rfl,hb,hcell⟩:=hkd.out.byte hlt
       have hkz:(k:Int)<(kinds.length:Int):=by omega
       have hp:=nU hlt
       rw [hn.out] at hp
       have hN:=aa (fun (g:cZ kinds[k]=true)=>show am (aK cZ kinds) (k+1)=true from by rw [am,hc.out,ag _ hlt,g];rfl)
       have hlo:=aa (fun (g:cZ kinds[k]=false)=>show am (aK cZ kinds) kinds.length=false from aN hlt (by rw [ag _ hlt];exact g))
       generalize kinds[k]=x at*
       by_cases c1:1≤x∧x≤3
       ·obtain ⟨c2,c3⟩:=c1
        replace hN:=aa (hN.out (by simp [cZ,c2,c3]))
        have c2z:¬x<1:=by omega
        have c3z:¬3<x:=by omega
        by_cases c4:x=2
        ·subst c4
         rw [if_pos rfl] at hp
         replace hp:=aa hp
         go_wp2
         go_round
         case rel=>exact ⟨k+1,n+1,by omega,by go_num,by go_num,by omega,hp,hN⟩
         case measure=>simp [intOf];omega
        ·have c4z:(x==2)=false:=beq_eq_false_iff_ne.2 c4
         rw [if_neg c4,HU] at hp
         replace hp:=aa hp
         go_wp2
         go_round
         case rel=>exact ⟨k+1,n,by omega,by go_num,rfl,by omega,hp,hN⟩
         case measure=>simp [intOf];omega
       ·replace hlo:=aa (hlo.out (by simp only [cZ,Bool.and_eq_false_iff,decide_eq_false_iff_not];omega))
        rw [hlo.out,Hg,Hg,Hg,Hg,Hg] at hv0
        clear hp
        by_cases c2:x<1
        ·go_wp2
         all_goals first|(go_ret;exact ⟨ad hv0.out.symm,hbw.out⟩)|(exfalso;omega)
        ·have c3:3<x:=by omega
         go_wp2
         all_goals first|(go_ret;exact ⟨ad hv0.out.symm,hbw.out⟩)|(exfalso;omega)
      ·have hke:k=kinds.length:=by omega
       rw [hke] at hc
       rw [hke,HZ] at hn
       rw [hc.out,hn.out,Hk] at hv0
       by_cases b1:n≤1
       ·have b1z:(n:Int)≤1:=by omega
        rw [decide_eq_true b1,Hk] at hv0
        by_cases b2:1≤acts.length
        ·have b2z:(1:Int)≤(acts.length:Int):=by omega
         rw [decide_eq_true b2,Hk] at hv0
         by_cases b3:acts.length≤16
         ·have b3z:(acts.length:Int)≤16:=by omega
          rw [decide_eq_true b3,Hk] at hv0
          cases S with
          |false=>
           rw [Hg] at hv0
           go_wp2_with (go_at_call 47;refine hDi.out.mono ?_;rintro e w' ⟨rfl,rfl⟩)
           go_ret
           exact ⟨ad hv0.out.symm,hbw.out⟩
          |true=>
           rw [Hk] at hv0
           cases R
           all_goals
            go_wp2_with (first|(go_at_call 47;refine hDi.out.mono ?_;rintro e w' ⟨rfl,rfl⟩)|(go_at_call 57;refine hR.out.mono ?_;rintro e w5 ⟨rfl,hb5⟩))
            go_ret
            exact ⟨ad hv0.out.symm,hbw.out.trans (hb5.mono hbw.out.size)⟩
         ·have b3z:¬(acts.length:Int)≤16:=by omega
          rw [decide_eq_false b3,Hg,Hg] at hv0
          go_wp2
          go_ret
          exact ⟨ad hv0.out.symm,hbw.out⟩
        ·have b2z:¬(1:Int)≤(acts.length:Int):=by omega
         rw [decide_eq_false b2,Hg,Hg,Hg] at hv0
         go_wp2
         go_ret
         exact ⟨ad hv0.out.symm,hbw.out⟩
       ·have b1z:¬(n:Int)≤1:=by omega
        rw [decide_eq_false b1,Hg,Hg,Hg,Hg] at hv0
        go_wp2
        go_ret
        exact ⟨ad hv0.out.symm,hbw.out⟩
    ·have a3z:((kinds.length:Int) !=(ks.length:Int))=true:=by rw [bne_iff_ne];omega
     rw [decide_eq_false a3,Hg,Hg,Hg,Hg,Hg,Hg] at hv0
     go_wp2
     go_ret
     exact ⟨ad hv0.out.symm,hbw.out⟩
  ·have a1b:=decide_eq_false a1
   rw [a1b,Hg,Hg,Hg,Hg,Hg,Hg,Hg,Hg] at hv0
   rw [a1b]
   go_wp2
   go_ret
   exact ⟨ad hv0.out.symm,hbw.out⟩
theorem aC {w:World} {a:Nat} {v0 v1 v2 v3 v4 v5 v6 v7 v8 v9 v10 v11:Value} (h:∀ i,w.cell? ⟨a,i,none⟩=(#[v0,v1,v2,v3,v4,v5,v6,v7,v8,v9,v10,v11]:Array Value)[i]?):
  w.cell? ⟨a,0,none⟩=some v0∧w.cell? ⟨a,1,none⟩=some v1∧w.cell? ⟨a,2,none⟩=some v2∧w.cell? ⟨a,3,none⟩=some v3∧w.cell? ⟨a,4,none⟩=some v4∧w.cell? ⟨a,5,none⟩=some v5∧w.cell? ⟨a,6,none⟩=some v6∧w.cell? ⟨a,7,none⟩=some v7∧w.cell? ⟨a,8,none⟩=some v8∧w.cell? ⟨a,9,none⟩=some v9∧w.cell? ⟨a,10,none⟩=some v10∧w.cell? ⟨a,11,none⟩=some v11:=
 ⟨h 0,h 1,h 2,h 3,h 4,h 5,h 6,h 7,h 8,h 9,h 10,h 11⟩
theorem yF:∀ args w,(callFunc 50 args).run prog w=.ok (.enter 50 args) w:=enters_of func50 (by kernel_rfl) rfl
theorem yG:∀ args w,(callFunc 54 args).run prog w=.ok (.enter 54 args) w:=enters_of func54 (by kernel_rfl) rfl
theorem tf (A1 A2 A3 A4 A5 A6 A7 A8 A9 A10 A11 A12:Option Addr) (p:Lp) (c1 c2 c3 c4 c5 c6 c7 c8 c9 c10 c11 c12:Nat) (s:lI) (P1 P2 P3:Option Addr) (d1 d2 d3 x:Nat) (w:World) (h:cJ w w.heap.size A1 A2 A3 A4 A5 A6 A7 A8 A9 A10 A11 A12 p) (lx:x<w.heap.size) (Y:∀ i,w.cell? ⟨x,i,none⟩=(#[.slice A1 p.heads.length c1,.slice A2 p.metas.length c2,.slice A3 p.steps.length c3,.slice A4 p.acts.length c4,.slice A5 p.tabs.length c5,.slice A6 p.control.length c6,.slice A7 p.emit.length c7,.slice A8 p.nh.length c8,.slice A9 p.nf.length c9,.slice A10 p.nm.length c10,.slice A11 p.na.length c11,.slice A12 p.nt.length c12]:Array Value)[i]?) (h1:Sl 1 bd w w.heap.size P1 s.takes) (h2:Sl 1 ro w w.heap.size P2 s.keys) (h3:Sl 2 xm w w.heap.size P3 s.brs) (h4:s.keys.length≤sm):
  Calls prog 50 #[.agg #[.slice P1 s.takes.length d1,.slice P2 s.keys.length d2,.slice P3 s.brs.length d3,.int .i64 s.to],.pointer (some ⟨x,0,none⟩)] w fun e w'=>e=.returned (.bool (!eI p s))∧Below w.heap.size w w':=by
 obtain ⟨wa,hwa,hsa,hba,hca,-⟩:=ak w #[.slice P1 s.takes.length d1,.slice P2 s.keys.length d2,.slice P3 s.brs.length d3,.int .i64 s.to] 100
 obtain ⟨b0,b1,b2,b3⟩:=wZ hca
 obtain ⟨y0,y1,y2,y3,y4,y5,y6,y7,y8,y9,y10,y11⟩:=aC fun i=>(hba.cell (p:=⟨x,i,none⟩) lx).trans (Y i)
 have hC:=aa (td A1 A2 A3 A4 A5 A6 A7 A8 A9 A10 A11 A12 p c1 c2 c3 c4 c5 c6 c7 c8 c9 c10 c11 c12 s P1 P2 P3 d1 d2 d3 wa ((h.below hba).more hba.size) ((h1.below ai hba).more ai hba.size) ((h2.below aS hba).more aS hba.size) ((h3.below cz hba).more cz hba.size) h4)
 have hl:=He lx hba.size
 have hl2:w.heap.size<wa.heap.size:=by omega
 replace hba:=aa hba
 replace hsa:=aa hsa
 clear hca Y h h1 h2 h3
 go_enter func50,ntmps50
 go_wp2_with (go_at_call 51;refine hC.out.mono ?_;rintro e w3 ⟨rfl,hb3⟩)
 go_ret
 exact ⟨rfl,hba.out.trans (hb3.mono hba.out.size)⟩
theorem uT (A1 A2 A3 A4 A5 A6 A7 A8 A9 A10 A11 A12:Option Addr) (p:Lp) (c1 c2 c3 c4 c5 c6 c7 c8 c9 c10 c11 c12:Nat) (t:eF) (P1 P2 P3 P4:Option Addr) (d1 d2 d3 d4 x:Nat) (w:World) (h:cJ w w.heap.size A1 A2 A3 A4 A5 A6 A7 A8 A9 A10 A11 A12 p) (lx:x<w.heap.size) (Y:∀ i,w.cell? ⟨x,i,none⟩=(#[.slice A1 p.heads.length c1,.slice A2 p.metas.length c2,.slice A3 p.steps.length c3,.slice A4 p.acts.length c4,.slice A5 p.tabs.length c5,.slice A6 p.control.length c6,.slice A7 p.emit.length c7,.slice A8 p.nh.length c8,.slice A9 p.nf.length c9,.slice A10 p.nm.length c10,.slice A11 p.na.length c11,.slice A12 p.nt.length c12]:Array Value)[i]?) (h1:Sl 1 ro w w.heap.size P1 t.keys) (h2:Sl 1 Ct w w.heap.size P2 t.kinds) (h3:Sl 1 bd w w.heap.size P3 t.acts) (h4:Sl 2 ke w w.heap.size P4 t.run.args) (h5:t.keys.length≤sm):
  Calls prog 54 #[.agg #[.slice P1 t.keys.length d1,.slice P2 t.kinds.length d2,.slice P3 t.acts.length d3,.int .i64 t.run.act,.slice P4 t.run.args.length d4],.pointer (some ⟨x,0,none⟩)] w fun e w'=>e=.returned (.bool (!iO p t))∧Below w.heap.size w w':=by
 obtain ⟨wa,hwa,hsa,hba,hca,-⟩:=ak w #[.slice P1 t.keys.length d1,.slice P2 t.kinds.length d2,.slice P3 t.acts.length d3,.int .i64 t.run.act,.slice P4 t.run.args.length d4] 108
 obtain ⟨b0,b1,b2,b3,b4⟩:=rB hca
 obtain ⟨y0,y1,y2,y3,y4,y5,y6,y7,y8,y9,y10,y11⟩:=aC fun i=>(hba.cell (p:=⟨x,i,none⟩) lx).trans (Y i)
 have hC:=aa (uS A1 A2 A3 A4 A5 A6 A7 A8 A9 A10 A11 A12 p c1 c2 c3 c4 c5 c6 c7 c8 c9 c10 c11 c12 t P1 P2 P3 P4 d1 d2 d3 d4 wa ((h.below hba).more hba.size) ((h1.below aS hba).more aS hba.size) ((h2.below bX hba).more bX hba.size) ((h3.below ai hba).more ai hba.size) ((h4.below aw hba).more aw hba.size) h5)
 have hl:=He lx hba.size
 have hl2:w.heap.size<wa.heap.size:=by omega
 replace hba:=aa hba
 replace hsa:=aa hsa
 clear hca Y h h1 h2 h3 h4
 go_enter func54,ntmps54
 go_wp2_with (go_at_call 55;refine hC.out.mono ?_;rintro e w3 ⟨rfl,hb3⟩)
 go_ret
 exact ⟨rfl,hba.out.trans (hb3.mono hba.out.size)⟩
theorem yH (A1 A2 A3 A4 A5 A6 A7 A8 A9 A10 A11 A12:Option Addr) (p:Lp) (c1 c2 c3 c4 c5 c6 c7 c8 c9 c10 c11 c12:Nat) (x:Nat) (w:World) (h:cJ w w.heap.size A1 A2 A3 A4 A5 A6 A7 A8 A9 A10 A11 A12 p) (lx:x<w.heap.size) (Y:∀ i,w.cell? ⟨x,i,none⟩=(#[.slice A1 p.heads.length c1,.slice A2 p.metas.length c2,.slice A3 p.steps.length c3,.slice A4 p.acts.length c4,.slice A5 p.tabs.length c5,.slice A6 p.control.length c6,.slice A7 p.emit.length c7,.slice A8 p.nh.length c8,.slice A9 p.nf.length c9,.slice A10 p.nm.length c10,.slice A11 p.na.length c11,.slice A12 p.nt.length c12]:Array Value)[i]?):
  Calls prog 49 #[.slice A3 p.steps.length c3,.func (.func 50) #[] #[.pointer (some ⟨x,0,none⟩)]] w fun e w'=>e=.returned (.bool (!p.steps.all (eI p)))∧Below w.heap.size w w':=by
 rw [←jL]
 refine nS 50 _ yF (fun s=> !eI p s) A3 c3 p.steps w h.steps fun s W cs _ hW hr=> ?_
 obtain ⟨P1,P2,P3,d1,d2,d3,rfl,hs1,hs2,hs3,hs4⟩:=hr
 exact tf A1 A2 A3 A4 A5 A6 A7 A8 A9 A10 A11 A12 p c1 c2 c3 c4 c5 c6 c7 c8 c9 c10 c11 c12 s P1 P2 P3 d1 d2 d3 x W ((h.below hW).more hW.size) (He lx hW.size) (fun i=>(hW.cell (p:=⟨x,i,none⟩) lx).trans (Y i)) hs1 hs2 hs3 hs4
theorem BD (A1 A2 A3 A4 A5 A6 A7 A8 A9 A10 A11 A12:Option Addr) (p:Lp) (c1 c2 c3 c4 c5 c6 c7 c8 c9 c10 c11 c12:Nat) (x:Nat) (w:World) (h:cJ w w.heap.size A1 A2 A3 A4 A5 A6 A7 A8 A9 A10 A11 A12 p) (lx:x<w.heap.size) (Y:∀ i,w.cell? ⟨x,i,none⟩=(#[.slice A1 p.heads.length c1,.slice A2 p.metas.length c2,.slice A3 p.steps.length c3,.slice A4 p.acts.length c4,.slice A5 p.tabs.length c5,.slice A6 p.control.length c6,.slice A7 p.emit.length c7,.slice A8 p.nh.length c8,.slice A9 p.nf.length c9,.slice A10 p.nm.length c10,.slice A11 p.na.length c11,.slice A12 p.nt.length c12]:Array Value)[i]?):
  Calls prog 53 #[.slice A5 p.tabs.length c5,.func (.func 54) #[] #[.pointer (some ⟨x,0,none⟩)]] w fun e w'=>e=.returned (.bool (!p.tabs.all (iO p)))∧Below w.heap.size w w':=by
 rw [←jL]
 refine nT 54 _ yG (fun s=> !iO p s) A5 c5 p.tabs w h.tabs fun s W cs _ hW hr=> ?_
 obtain ⟨P1,P2,P3,P4,d1,d2,d3,d4,rfl,hs1,hs2,hs3,hs4,hs5,-⟩:=hr
 exact uT A1 A2 A3 A4 A5 A6 A7 A8 A9 A10 A11 A12 p c1 c2 c3 c4 c5 c6 c7 c8 c9 c10 c11 c12 s P1 P2 P3 P4 d1 d2 d3 d4 x W ((h.below hW).more hW.size) (He lx hW.size) (fun i=>(hW.cell (p:=⟨x,i,none⟩) lx).trans (Y i)) hs1 hs2 hs3 hs4 hs5
theorem Dm {p:Lp} (h:p.steps.all (eI p)=true):∀ s∈p.steps,s.brs.length≤1000:=fun s hs=>by
 have h1:=Hx.1 h s hs
 unfold eI at h1
 cases hk:gz (fk p (-1)) s.keys with
 |none=>rw [hk] at h1;cases h1
 |some ws=>
  rw [hk] at h1
  simp only [Hl] at h1
  have h2:=h1.2
  split at h2
  ·have:=of_decide_eq_true h2;omega
  ·simp only [Hl,decide_eq_true_eq] at h2;omega
theorem Sl.ltb {w:World} {B:Nat} {A:Option Addr} {xs:List eF} (h:Sl 5 qz w B A xs) {i:Nat} (hi:i<xs.length):∃ b o A1 A2 A3 A4 c1 c2 c3 c4,A=some ⟨b,o,none⟩∧b<B∧w.cell? ⟨b,o+i*5,none⟩=some (.slice A1 xs[i].keys.length c1)∧w.cell? ⟨b,o+i*5+1,none⟩=some (.slice A2 xs[i].kinds.length c2)∧w.cell? ⟨b,o+i*5+2,none⟩=some (.slice A3 xs[i].acts.length c3)∧w.cell? ⟨b,o+i*5+3,none⟩=some (.int .i64 xs[i].run.act)∧w.cell? ⟨b,o+i*5+4,none⟩=some (.slice A4 xs[i].run.args.length c4)∧
  Sl 1 ro w B A1 xs[i].keys∧Sl 1 Ct w B A2 xs[i].kinds∧Sl 1 bd w B A3 xs[i].acts∧Sl 2 ke w B A4 xs[i].run.args∧xs[i].acts.length≤c3:=by
 obtain ⟨b,o,ecs,hA,hb,hl,hc,A1,A2,A3,A4,c1,c2,c3,c4,rfl,h1,h2,h3,h4,h5,h6⟩:=h.2 i xs[i] (Hn hi)
 exact ⟨b,o,A1,A2,A3,A4,c1,c2,c3,c4,hA,hb,hc 0 _ rfl,hc 1 _ rfl,hc 2 _ rfl,hc 3 _ rfl,hc 4 _ rfl,h1,h2,h3,h4,h6⟩
def qY:Int→List oF→Int
 |n,[]=>n
 |n,x::l=>qY (wrap64 (n+x.e.length)) l
theorem lA (A:Option Addr) (cap:Nat) (l:List oF) (w:World) (h:Sl 5 oK w w.heap.size A l):
  Calls prog 41 #[.slice A l.length cap] w fun e w'=>e=.returned (.int .i64 (qY l.length l))∧w=w':=by
 have hl:=h.len
 go_enter func41,ntmps41
 go_wp2
 go_loop [3,4] (fun s i=>∃ (k:Nat) (n:Int),k≤l.length∧i=.int .i64 k∧s=.int .i64 n∧Hid (qY n (l.drop k)=qY l.length l)) (fun _ i=>l.length-(intOf i).toNat)
 case atStart=>exact ⟨0,_,Hm _,rfl,rfl,aa rfl⟩
 case round=>
  obtain ⟨k,n,hk,rfl,rfl,hc⟩:=hrel
  by_cases hlt:k<l.length
  ·obtain ⟨b,o,A',c',rfl,hb,n0,n1,n2,n3,n4,hE⟩:=h.ins hlt
   have hkz:(k:Int)<(l.length:Int):=by omega
   have le:=hE.len
   have hN:=aa (show qY (wrap64 (n+l[k].e.length)) (l.drop (k+1))=qY l.length l from by rw [←hc.out,H4 hlt];rfl)
   generalize l[k]=x at n3 le hN
   clear n0 n1 n2 n4 hE
   go_wp2
   go_round
   case rel=>exact ⟨k+1,_,by omega,by go_num,rfl,hN⟩
   case measure=>simp [intOf];omega
  ·have hke:k=l.length:=by omega
   subst hke
   have hf:=aa (show n=qY l.length l from by rw [←hc.out,List.drop_length];rfl)
   go_wp2
   go_ret
   exact ⟨by rw [hf.out]<;>rfl,rfl⟩
theorem uU (A1 A2 A3 A4 A5 A6 A7 A8 A9 A10 A11 A12:Option Addr) (p:Lp) (c1 c2 c3 c4 c5 c6 c7 c8 c9 c10 c11 c12:Nat) (w:World) (h:cJ w w.heap.size A1 A2 A3 A4 A5 A6 A7 A8 A9 A10 A11 A12 p):
  Calls prog 16 #[.agg #[.slice A1 p.heads.length c1,.slice A2 p.metas.length c2,.slice A3 p.steps.length c3,.slice A4 p.acts.length c4,.slice A5 p.tabs.length c5,.slice A6 p.control.length c6,.slice A7 p.emit.length c7,.slice A8 p.nh.length c8,.slice A9 p.nf.length c9,.slice A10 p.nm.length c10,.slice A11 p.na.length c11,.slice A12 p.nt.length c12]] w fun e w'=>(∃ b,e=.returned (.bool b))∧Below w.heap.size w w':=by
 have l0:=h.heads.len
 have l1:=h.metas.len
 have l2:=h.steps.len
 have l3:=h.acts.len
 have l4:=h.tabs.len
 have l5:=h.control.len
 have l6:=h.emit.len
 obtain ⟨wz,hwz,hsz,hbz,hcz,-⟩:=ak w #[.slice A1 p.heads.length c1,.slice A2 p.metas.length c2,.slice A3 p.steps.length c3,.slice A4 p.acts.length c4,.slice A5 p.tabs.length c5,.slice A6 p.control.length c6,.slice A7 p.emit.length c7,.slice A8 p.nh.length c8,.slice A9 p.nf.length c9,.slice A10 p.nm.length c10,.slice A11 p.na.length c11,.slice A12 p.nt.length c12] 33
 have hl1:w.heap.size<wz.heap.size:=by omega
 obtain ⟨y0,y1,y2,y3,y4,y5,y6,-,-,-,-,-⟩:=aC hcz
 have hP:=(h.below hbz).more (B':=wz.heap.size) hbz.size
 have hP0:=aa hP.heads
 have hP2:=aa hP.steps
 have hP3:=aa hP.acts
 have hP4:=aa hP.tabs
 have hWc:=aa (fun m=>lA A6 c6 p.control (wz.drewN m) ((hP.control.drewN bG m).more bG (by simp)))
 generalize qY p.control.length p.control=W0 at hWc
 have hgo:=aa (fun W (hW:Below wz.heap.size wz W)=>hbz.trans (hW.mono hbz.size))
 replace hsz:=aa hsz
 clear hcz hbz h hP
 go_enter func16,ntmps16
 go_wp2_with fail
 go_quiet ((go_at_call 41;with_reducible exact de (hWc.out _)))
 go_wp2
 go_loopw [3,4] (fun s i wr=>∃ (k:Nat) (n:Int),k≤p.heads.length∧i=.int .i64 k∧s=.int .i64 n∧Hid (Below wz.heap.size wz wr)) (fun _ i _=>p.heads.length-(intOf i).toNat)
 case atStart=>exact ⟨0,_,Hm _,rfl,rfl,aa (au (Hf _ _) _)⟩
 case round=>
  obtain ⟨k,n,hk,rfl,rfl,hI⟩:=hrel
  have kbr:=ah hI.out
  by_cases hlt:k<p.heads.length
  ·have hkz:(k:Int)<(p.heads.length:Int):=by omega
   have q0:=(kbr.1 _ 0 hl1).trans y0
   obtain ⟨b,o,A',c',hA,hb,hcell,hE⟩:=hP0.out.ints hlt
   subst hA
   have le:=hE.len
   have n0:=(kbr.1 _ (o+k) hb).trans hcell
   generalize p.heads[k]=x at n0 le hcell hE
   clear kbr hcell hE
   go_wp2
   go_roundw
   case rel=>exact ⟨k+1,_,by omega,by go_num,rfl,hI⟩
   case measure=>simp [intOf];omega
  ·have hke:k=p.heads.length:=by omega
   subst hke
   have q0:=(kbr.1 _ 0 hl1).trans y0
   obtain ⟨w2,rfl⟩:∃ w2:World,w2=wr:=⟨_,rfl⟩
   clear kbr
   generalize p.heads.length=kh at*
   go_wp2
   clear q0 y0
   go_loopw [3,5,6,7] (fun s i _ _ wr=>∃ (k:Nat) (n:Int),k≤p.steps.length∧i=.int .i64 k∧s=.int .i64 n∧Hid (Below wz.heap.size wz wr)) (fun _ i _ _ _=>p.steps.length-(intOf i).toNat)
   case atStart=>exact ⟨0,_,Hm _,rfl,rfl,hI⟩
   case round=>
    obtain ⟨k,n,hk,rfl,rfl,hI⟩:=hrel
    have kbr:=ah hI.out
    have q2:=(kbr.1 _ 2 hl1).trans y2
    by_cases hlt:k<p.steps.length
    ·have hkz:(k:Int)<(p.steps.length:Int):=by omega
     obtain ⟨b,o,A1',A2',A3',c1',c2',c3',hA,hb,e0,e1,e2,e3,hs1,hs2,hs3,-⟩:=hP2.out.stp hlt
     have f0:=(kbr.1 _ (o+k*4) hb).trans e0
     have f1:=(kbr.1 _ (o+k*4+1) hb).trans e1
     have f2:=(kbr.1 _ (o+k*4+2) hb).trans e2
     have le1:=hs1.len
     have le2:=hs2.len
     have le3:=hs3.len
     subst hA
     generalize p.steps[k]=x at e0 e1 e2 e3 f0 f1 f2 le1 le2 le3 hs1 hs2 hs3
     clear kbr e0 e3
     go_wp2_with fail
     go_quiet (fail)
     have hI2:=aa (au hI.out nq)
     generalize wr.drewN nq=w3 at hI2
     have kb3:=ah hI2.out
     have q2':=(kb3.1 _ 2 hl1).trans y2
     have f1':=(kb3.1 _ (o+k*4+1) hb).trans e1
     clear kb3 q2 f0 f1 f2
     go_wp2
     go_loopw [3,6] (fun s i wr=>∃ (j:Nat) (n:Int),j≤x.keys.length∧i=.int .i64 j∧s=.int .i64 n∧Hid (Below wz.heap.size wz wr)) (fun _ i _=>x.keys.length-(intOf i).toNat)
     case atStart=>exact ⟨0,_,Hm _,rfl,rfl,hI2⟩
     case round=>
      obtain ⟨j,n,hj,rfl,rfl,hJ⟩:=hrel
      have kbj:=ah hJ.out
      have r2:=(kbj.1 _ 2 hl1).trans y2
      have t1:=(kbj.1 _ (o+k*4+1) hb).trans e1
      have t2:=(kbj.1 _ (o+k*4+2) hb).trans e2
      by_cases hjt:j<x.keys.length
      ·have hjz:(j:Int)<(x.keys.length:Int):=by omega
       obtain ⟨g,og,A',c',hA,hg,hcell,hE⟩:=hs2.code hjt
       subst hA
       have le:=hE.len
       have n0:=(kbj.1 _ (og+j) hg).trans hcell
       generalize x.keys[j]=z at n0 le hcell hE
       clear kbj hcell hE
       go_wp2
       go_roundw
       case rel=>exact ⟨j+1,_,by omega,by go_num,rfl,hJ⟩
       case measure=>simp [intOf];omega
      ·have hje:j=x.keys.length:=by omega
       subst hje
       obtain ⟨w4,rfl⟩:∃ w4:World,w4=wr:=⟨_,rfl⟩
       clear kbj q2' f1'
       go_wp2
       clear r2 t1 t2
       go_loopw [3,7] (fun s i wr=>∃ (j:Nat) (n:Int),j≤x.brs.length∧i=.int .i64 j∧s=.int .i64 n∧Hid (Below wz.heap.size wz wr)) (fun _ i _=>x.brs.length-(intOf i).toNat)
       case atStart=>exact ⟨0,_,Hm _,rfl,rfl,hJ⟩
       case round=>
        obtain ⟨j,n,hj,rfl,rfl,hJ⟩:=hrel
        have kbj:=ah hJ.out
        have r2:=(kbj.1 _ 2 hl1).trans y2
        have t2:=(kbj.1 _ (o+k*4+2) hb).trans e2
        by_cases hjt:j<x.brs.length
        ·have hjz:(j:Int)<(x.brs.length:Int):=by omega
         obtain ⟨g,og,A',c',hA,hg,hcell,hcell2,hE⟩:=hs3.br hjt
         subst hA
         have le:=hE.len
         have n0:=(kbj.1 _ (og+j*2) hg).trans hcell
         generalize x.brs[j]=z at n0 le hcell hcell2 hE
         clear kbj hcell hcell2 hE
         go_wp2
         go_roundw
         case rel=>exact ⟨j+1,_,by omega,by go_num,rfl,hJ⟩
         case measure=>simp [intOf];omega
        ·have hje:j=x.brs.length:=by omega
         subst hje
         go_wp2
         go_roundw
         case rel=>exact ⟨k+1,_,by omega,by go_num,rfl,hJ⟩
         case measure=>simp [intOf];omega
    ·have hke:k=p.steps.length:=by omega
     subst hke
     obtain ⟨w5,rfl⟩:∃ w5:World,w5=wr:=⟨_,rfl⟩
     clear kbr
     generalize p.steps.length=ks at*
     go_wp2
     clear q2 y2
     go_loopw [3,8] (fun s i wr=>∃ (k:Nat) (n:Int),k≤p.acts.length∧i=.int .i64 k∧s=.int .i64 n∧Hid (Below wz.heap.size wz wr)) (fun _ i _=>p.acts.length-(intOf i).toNat)
     case atStart=>exact ⟨0,_,Hm _,rfl,rfl,hI⟩
     case round=>
      obtain ⟨k,n,hk,rfl,rfl,hI⟩:=hrel
      have kbr:=ah hI.out
      have hzr:=hI.out.size
      have q3:=(kbr.1 _ 3 hl1).trans y3
      by_cases hlt:k<p.acts.length
      ·have hkz:(k:Int)<(p.acts.length:Int):=by omega
       obtain ⟨b,o,A1',A2',c1',c2',hA,hb,e0,e1,hs1,hs2⟩:=hP3.out.act hlt
       have f0:=(kbr.1 _ (o+k*2) hb).trans e0
       have f1:=(kbr.1 _ (o+k*2+1) hb).trans e1
       have le1:=hs1.len
       have le2:=hs2.len
       have hWd:=aa (fun m=>lA A2' c2' p.acts[k].body (wr.drewN m) ((((hs2.below bG hI.out).more (B':=wr.heap.size) bG hzr).drewN bG m).more bG (by simp)))
       subst hA
       generalize p.acts[k]=x at e0 e1 f0 f1 le1 le2 hs1 hs2 hWd
       generalize qY x.body.length x.body=W1 at hWd
       clear kbr e0 e1 hs1 hs2
       go_wp2_with fail
       go_quiet ((go_at_call 41;with_reducible exact de (hWd.out _)))
       go_wp2
       go_roundw
       case rel=>exact ⟨k+1,_,by omega,by go_num,rfl,aa (au hI.out _)⟩
       case measure=>simp [intOf];omega
      ·have hke:k=p.acts.length:=by omega
       subst hke
       obtain ⟨w6,rfl⟩:∃ w6:World,w6=wr:=⟨_,rfl⟩
       clear kbr
       generalize p.acts.length=ka at*
       go_wp2
       clear q3 y3
       go_loopw [3,9,10] (fun s i _ wr=>∃ (k:Nat) (n:Int),k≤p.tabs.length∧i=.int .i64 k∧s=.int .i64 n∧Hid (Below wz.heap.size wz wr)) (fun _ i _ _=>p.tabs.length-(intOf i).toNat)
       case atStart=>exact ⟨0,_,Hm _,rfl,rfl,hI⟩
       case round=>
        obtain ⟨k,n,hk,rfl,rfl,hI⟩:=hrel
        have kbr:=ah hI.out
        have q4:=(kbr.1 _ 4 hl1).trans y4
        by_cases hlt:k<p.tabs.length
        ·have hkz:(k:Int)<(p.tabs.length:Int):=by omega
         obtain ⟨b,o,A1',A2',A3',A4',c1',c2',c3',c4',hA,hb,e0,e1,e2,e3,e4,hs1,hs2,hs3,hs4,-⟩:=hP4.out.ltb hlt
         have f2:=(kbr.1 _ (o+k*5+2) hb).trans e2
         have f4:=(kbr.1 _ (o+k*5+4) hb).trans e4
         have le1:=hs1.len
         have le3:=hs3.len
         have le4:=hs4.len
         subst hA
         generalize p.tabs[k]=x at e0 e1 e2 e3 e4 f2 f4 le1 le3 le4 hs1 hs2 hs3 hs4
         clear kbr e1 e2 e3 e4
         go_wp2_with fail
         go_quiet (fail)
         have hI2:=aa (au hI.out nq)
         generalize wr.drewN nq=w3 at hI2
         have kb3:=ah hI2.out
         have q4':=(kb3.1 _ 4 hl1).trans y4
         have f0':=(kb3.1 _ (o+k*5) hb).trans e0
         clear kb3 q4 f2 f4
         go_wp2
         go_loopw [3,10] (fun s i wr=>∃ (j:Nat) (n:Int),j≤x.keys.length∧i=.int .i64 j∧s=.int .i64 n∧Hid (Below wz.heap.size wz wr)) (fun _ i _=>x.keys.length-(intOf i).toNat)
         case atStart=>exact ⟨0,_,Hm _,rfl,rfl,hI2⟩
         case round=>
          obtain ⟨j,n,hj,rfl,rfl,hJ⟩:=hrel
          have kbj:=ah hJ.out
          have r4:=(kbj.1 _ 4 hl1).trans y4
          have t0:=(kbj.1 _ (o+k*5) hb).trans e0
          by_cases hjt:j<x.keys.length
          ·have hjz:(j:Int)<(x.keys.length:Int):=by omega
           obtain ⟨g,og,A',c',hA,hg,hcell,hE⟩:=hs1.code hjt
           subst hA
           have le:=hE.len
           have n0:=(kbj.1 _ (og+j) hg).trans hcell
           generalize x.keys[j]=z at n0 le hcell hE
           clear kbj hcell hE
           go_wp2
           go_roundw
           case rel=>exact ⟨j+1,_,by omega,by go_num,rfl,hJ⟩
           case measure=>simp [intOf];omega
          ·have hje:j=x.keys.length:=by omega
           subst hje
           go_wp2
           go_roundw
           case rel=>exact ⟨k+1,_,by omega,by go_num,rfl,hJ⟩
           case measure=>simp [intOf];omega
        ·have hke:k=p.tabs.length:=by omega
         subst hke
         go_wp2
         all_goals go_ret
         all_goals exact ⟨⟨_,rfl⟩,hgo.out _ hI.out⟩
end Go.Proofs.YtiebolhmdhdagaaGreatDoor

import Derived.Test.YtiebolhmdhdagaaGreatDoorEwp17
import Derived.Test.YtiebolhmdhdagaaGreatDoorEwp11
set_option linter.all false
set_option maxHeartbeats 8000000
set_option maxRecDepth 100000
open Go.Proofs.Tryz
namespace Go.Proofs.YtiebolhmdhdagaaGreatDoor
open _root_.Nat renaming lt_of_lt_of_le→He, le_refl→Hh, le_trans→Hj, zero_le→Hm, le_of_lt→Hs, zero_add→HS
open _root_.Go.RowKit.Below renaming refl→Hf
open _root_.Bool renaming false_and→Hg, true_and→Hk, eq_iff_iff→Hr, false_eq_true→Hy
open _root_.List renaming getElem?_eq_getElem→Hn, getElem_mem→Ho, length_cons→Hp, length_append→Hu, getElem?_toArray→HH, getElem?_cons_zero→HK, getElem?_cons_succ→HM, append_assoc→HP, take_succ_eq_append_getElem→HR, getElem?_eq_some_iff→HV, length_nil→HY, take_length→HZ, nil_append→H5, cons_append→H6
open _root_.Int renaming eq_ofNat_of_zero_le→Hv
open _root_.Option renaming getD_some→H9
open Go.RowKit
theorem Sl.ins {w:World} {B:Nat} {A:Option Addr} {xs:List oF} (h:Sl 5 oK w B A xs) {i:Nat} (hi:i<xs.length):∃ b o A' c',A=some ⟨b,o,none⟩∧b<B∧w.cell? ⟨b,o+i*5,none⟩=some (.int .u8 xs[i].kind)∧w.cell? ⟨b,o+i*5+1,none⟩=some (.int .i64 xs[i].a)∧w.cell? ⟨b,o+i*5+2,none⟩=some (.int .i64 xs[i].b)∧w.cell? ⟨b,o+i*5+3,none⟩=some (.slice A' xs[i].e.length c')∧w.cell? ⟨b,o+i*5+4,none⟩=some (.int .i64 xs[i].to)∧Sl 6 Ab w B A' xs[i].e:=by
 obtain ⟨b,o,ecs,hA,hb,hl,hc,A',c',rfl,h1⟩:=h.2 i xs[i] (Hn hi)
 exact ⟨b,o,A',c',hA,hb,hc 0 _ rfl,hc 1 _ rfl,hc 2 _ rfl,hc 3 _ rfl,hc 4 _ rfl,h1⟩
def Fp (tok:Bool) (act kd tt:Int) (i many:Nat):Bool:=tok&& !(decide (0≤act)&&decide (kd=3))&&(if kd=7∨kd=8 then decide ((i:Int)<tt)&&decide (tt≤many) else decide (tt=0))
def FH (w:Int) (n:Nat) (o:Option Int):Bool:=if w=0 then decide (n=0) else if 0<w then decide (o=some w) else true
theorem yq (p:Lp) (act:Int) (many i:Nat) (x:oF):eL (Ed p act) p act many i x=(Fp (gg p x).2 act x.kind x.to i many&&FH (gg p x).1 x.e.length (fk p act x.e)):=by
 unfold eL Fp qx Ed FH
 congr 1
 by_cases h:(gg p x).1=0
 ·rw [if_pos h,if_pos h];cases x.e<;>rfl
 ·rw [if_neg h,if_neg h]
theorem jG (A1 A2 A3 A4 A5 A6 A7 A8 A9 A10 A11 A12:Option Addr) (p:Lp) (c1 c2 c3 c4 c5 c6 c7 c8 c9 c10 c11 c12:Nat) (act:Int) (l:List oF) (A:Option Addr) (cap:Nat) (w:World) (h:cJ w w.heap.size A1 A2 A3 A4 A5 A6 A7 A8 A9 A10 A11 A12 p) (hc:Sl 5 oK w w.heap.size A l):
  Calls prog 48 #[.agg #[.slice A1 p.heads.length c1,.slice A2 p.metas.length c2,.slice A3 p.steps.length c3,.slice A4 p.acts.length c4,.slice A5 p.tabs.length c5,.slice A6 p.control.length c6,.slice A7 p.emit.length c7,.slice A8 p.nh.length c8,.slice A9 p.nf.length c9,.slice A10 p.nm.length c10,.slice A11 p.na.length c11,.slice A12 p.nt.length c12],.int .i64 act,.slice A l.length cap] w fun e w'=>e=.returned (.bool (fq p act l))∧Below w.heap.size w w':=by
 have hlen:=hc.len
 obtain ⟨wz,hwz,hsz,hbz,hcz,-⟩:=ak w #[.slice A1 p.heads.length c1,.slice A2 p.metas.length c2,.slice A3 p.steps.length c3,.slice A4 p.acts.length c4,.slice A5 p.tabs.length c5,.slice A6 p.control.length c6,.slice A7 p.emit.length c7,.slice A8 p.nh.length c8,.slice A9 p.nf.length c9,.slice A10 p.nm.length c10,.slice A11 p.na.length c11,.slice A12 p.nt.length c12] 33
 have hP:=aa (h.below hbz)
 have hC:=aa (hc.below bG hbz)
 have hl1:w.heap.size<wz.heap.size:=by omega
 replace hbz:=aa hbz
 replace hsz:=aa hsz
 by_cases h6:65536<l.length
 ·have h6z:(65536:Int)<(l.length:Int):=by omega
  have hv:=aa (show fq p act l=false from by unfold fq mL;rw [decide_eq_false (by omega),Hg])
  clear hcz h hc
  go_enter func48,ntmps48
  go_wp2
  go_ret
  exact ⟨ad hv.out.symm,hbz.out⟩
 ·have h6z:¬(65536:Int)<(l.length:Int):=by omega
  have hv:=aa (show fq p act l=am (fun i=>aK (eL (Ed p act) p act l.length i) l i) l.length from by unfold fq mL;rw [decide_eq_true (by omega),Hk])
  generalize hF:(fun i=>aK (eL (Ed p act) p act l.length i) l i)=F at hv
  clear h hc
  go_enter func48,ntmps48
  go_wp2
  go_loopw [7,8,9,10,11,12,13,19] (fun _ _ _ _ _ _ _ i wr=>∃ k:Nat,k≤l.length∧i=.int .i64 k∧Hid (am F k=true)∧Hid (Below wz.heap.size wz wr)) (fun _ _ _ _ _ _ _ i _=>l.length-(intOf i).toNat)
  case atStart=>exact ⟨0,Hm _,rfl,aa rfl,aa (Hf _ _)⟩
  case round=>
   obtain ⟨k,hk,rfl,hcn,hG⟩:=hrel
   have hzr:=hG.out.size
   have hgo:=aa (fun W (hW:Below wz.heap.size wr W)=>hbz.out.trans ((hG.out.trans hW).mono hbz.out.size))
   by_cases hlt:k<l.length
   ·have hkz:(k:Int)<(l.length:Int):=by omega
    obtain ⟨b,o,A',c',rfl,hb,n0,n1,n2,n3,n4,hE⟩:=(hC.out.below bG (hG.out.mono hbz.out.size)).ins hlt
    have hFk:F k=eL (Ed p act) p act l.length k l[k]:=by rw [←hF];simp only [ag _ hlt]
    rw [yq] at hFk
    have hN:=aa (fun (g:F k=true)=>show am F (k+1)=true from by rw [am,hcn.out,g];rfl)
    have hlo:=aa (fun (g:F k=false)=>show am F l.length=false from aN hlt g)
    clear hF
    generalize hxk:l[k]=x at*
    obtain ⟨kd,a,b2,ec,tt⟩:=x
    simp only at n0 n1 n2 n3 n4 hE hFk
    replace hxk:=aa hxk
    obtain ⟨wn,hwn,hsn,hbn,hcl,-⟩:=ak wr #[.int .u8 kd,.int .i64 a,.int .i64 b2,.slice A' ec.length c',.int .i64 tt] 147
    obtain ⟨m0,m1,m2,m3,m4⟩:=rB hcl
    have Yn:=fun i=>(bH hbn w.heap.size i (by omega)).trans ((bH hG.out w.heap.size i (by omega)).trans (hcz i))
    have y0:=Yn 0
    have y1:=Yn 1
    have y2:=Yn 2
    have y3:=Yn 3
    have y4:=Yn 4
    have y5:=Yn 5
    have y6:=Yn 6
    have y7:=Yn 7
    have y8:=Yn 8
    have y9:=Yn 9
    have y10:=Yn 10
    have y11:=Yn 11
    simp only [HH,HK,HM] at y0 y1 y2 y3 y4 y5 y6 y7 y8 y9 y10 y11
    have hPn:=(((hP.out.below (hG.out.mono hbz.out.size)).below (hbn.mono (by omega))).more (B':=wn.heap.size) (by omega))
    have hEn:=aa ((hE.below bq (hbn.mono (by omega))).more (B':=wn.heap.size) bq (by omega))
    have hT:=uM A1 A2 A3 A4 A5 A6 A7 A8 A9 A10 A11 A12 p c1 c2 c3 c4 c5 c6 c7 c8 c9 c10 c11 c12 ⟨kd,a,b2,ec,tt⟩ A' c' wn hPn
    replace hPn:=aa hPn
    have hwrn:wr.heap.size<wn.heap.size:=by omega
    have hwl:w.heap.size<wn.heap.size:=by omega
    have hgn:=aa (show Below wz.heap.size wr wn from hbn.mono hzr)
    have lec:=hE.len
    simp only at hT
    generalize gg p ⟨kd,a,b2,ec,tt⟩=T at hT hFk
    obtain ⟨tw,tok⟩:=T
    simp only at hT hFk
    replace hT:=aa hT
    replace hsn:=aa hsn
    clear hcl hbn Yn hE
    go_upto_region 7 with (go_at_call 100;refine hT.out.mono ?_;rintro e w3 ⟨rfl,hb3⟩)
    have z0:=(hb3.cell (p:=⟨wr.heap.size,0,none⟩) hwrn).trans m0
    have z3:=(hb3.cell (p:=⟨wr.heap.size,3,none⟩) hwrn).trans m3
    have z4:=(hb3.cell (p:=⟨wr.heap.size,4,none⟩) hwrn).trans m4
    have hw3:=He hwrn hb3.size
    have hg3:=aa (hgn.out.trans (hb3.mono (Hj hzr (by omega))))
    have kb3:=aa (fun i=>hb3.cell (p:=⟨w.heap.size,i,none⟩) hwl)
    have hP3:=aa ((hPn.out.below hb3).more hb3.size)
    have hE3:=aa ((hEn.out.below bq hb3).more bq hb3.size)
    clear m0 m1 m2 m3 m4 n0 n1 n2 n3 n4 hb3 hT hPn hEn
    go_cut [11] (fun u wx=>u=.bool (decide (kd=7) ||decide (kd=8))∧wx=w3)
    case first=>
     go_wp2
     all_goals go_meet
     all_goals refine ⟨congrArg Value.bool ?_,rfl⟩
     all_goals clear hFk hN hlo hxk hv hcn
     all_goals first|rfl|(rw [Hr];simp [*];done)|(rw [Hr];simp [*];omega)|(rw [Hr];simp_all;done)|(rw [Hr];simp_all;omega)
    case rest=>
     obtain ⟨rfl,rfl⟩:=hcut
     go_upto_region 8 with fail
     have hJ:∀ jb:Bool,(decide (kd=7) ||decide (kd=8))=jb→Fp tok act kd tt k l.length=(tok&& !(decide (0≤act)&&decide (kd=3))&&(if jb=true then decide ((k:Int)<tt)&&decide (tt≤l.length) else decide (tt=0))):=fun jb h=>by
      subst h
      unfold Fp
      by_cases h7:kd=7<;>by_cases h8:kd=8<;>simp [h7,h8]
     generalize (decide (kd=7) ||decide (kd=8))=jb at hJ ⊢
     replace hJ:=hJ jb rfl
     generalize hGo:Fp tok act kd tt k l.length=G at hJ hFk
     replace hFk:=aa hFk
     go_cut [73] (fun u wx=>u=.bool (!G)∧wx=wc)
     case first=>
      cases tok<;>cases jb
      all_goals go_wp2
      all_goals go_meet
      all_goals refine ⟨congrArg Value.bool ?_,rfl⟩
      all_goals rw [hJ]
      all_goals clear hFk hN hlo hxk hv hcn hJ hGo hgo hG hC hP hE3 hP3 hg3 kb3
      all_goals first|rfl|(rw [Hr];simp [*];done)|(rw [Hr];simp [*];omega)|(rw [Hr];simp_all;done)|(rw [Hr];simp_all;omega)
     case rest=>
      obtain ⟨rfl,rfl⟩:=hcut
      cases G with
      |false=>
       replace hlo:=aa (hlo.out (by rw [hFk.out];rfl))
       go_wp2
       go_ret
       exact ⟨ad (by rw [hv.out,hlo.out]),hgo.out _ hg3.out⟩
      |true=>
       have t0:=(kb3.out 0).trans y0
       have t1:=(kb3.out 1).trans y1
       have t2:=(kb3.out 2).trans y2
       have t3:=(kb3.out 3).trans y3
       have t4:=(kb3.out 4).trans y4
       have t5:=(kb3.out 5).trans y5
       have t6:=(kb3.out 6).trans y6
       have t7:=(kb3.out 7).trans y7
       have t8:=(kb3.out 8).trans y8
       have t9:=(kb3.out 9).trans y9
       have t10:=(kb3.out 10).trans y10
       have t11:=(kb3.out 11).trans y11
       have hW:=iu A1 A2 A3 A4 A5 A6 A7 A8 A9 A10 A11 A12 p c1 c2 c3 c4 c5 c6 c7 c8 c9 c10 c11 c12 act ec A' c' wc hP3.out hE3.out
       unfold Cw at hW
       replace hW:=aa hW
       clear y0 y1 y2 y3 y4 y5 y6 y7 y8 y9 y10 y11 hJ hGo
       generalize fk p act ec=o at hW hFk
       go_upto_region 11 with (go_at_call 58;refine hW.out.mono ?_;rintro e w4 ⟨rfl,hb4⟩)
       have z3':=(hb4.cell (p:=⟨wr.heap.size,3,none⟩) hw3).trans z3
       have hg4:=aa (hg3.out.trans (hb4.mono (Hj hzr (Hs hw3))))
       have hw4:=He hw3 hb4.size
       clear t0 t1 t2 t3 t4 t5 t6 t7 t8 t9 t10 t11 hb4 hW z0 z3 z4
       generalize hCd:FH tw ec.length o=D at hFk
       obtain ⟨wd,hwd⟩:∃ wd:World,wd=wc:=⟨_,rfl⟩
       go_cut [9,12,13,102] (fun _ _ _ u wx=>u=.bool (!D)∧wx=w4)
       case first=>
        cases o
        all_goals go_wp2
        all_goals go_meet
        all_goals first|refine ⟨congrArg Value.bool ?_,rfl⟩|(exfalso;clear hFk hN hlo hxk hv hcn hgo hG hC hP hE3 hP3 hg3 kb3 hCd;cases ec<;>simp_all)
        all_goals rw [←hCd]
        all_goals clear hFk hN hlo hxk hv hcn hgo hG hC hP hE3 hP3 hg3 kb3 hCd
        all_goals unfold FH
        all_goals first|rfl|(rw [Hr];simp [*];done)|(rw [Hr];simp [*];omega)|(rw [Hr];simp_all;done)|(rw [Hr];simp_all;omega)
       case rest=>
        obtain ⟨rfl,rfl⟩:=hcut
        cases D with
        |false=>
         replace hlo:=aa (hlo.out (by rw [hFk.out];rfl))
         go_wp2
         go_ret
         exact ⟨ad (by rw [hv.out,hlo.out]),hgo.out _ hg4.out⟩
        |true=>
         replace hN:=aa (hN.out (by rw [hFk.out];rfl))
         have hGN:=aa (hG.out.trans hg4.out)
         go_wp2
         go_roundw
         case rel=>exact ⟨k+1,by omega,by go_num,hN,hGN⟩
         case measure=>simp [intOf];omega
   ·have hke:k=l.length:=by omega
    subst hke
    go_wp2
    go_ret
    exact ⟨ad (by rw [hv.out,hcn.out]),hgo.out _ (Hf _ _)⟩
theorem lj (a:Int) (e:Bool) (w:World):(Instr.checkKey e 10000 3 (.int .i64 a)).run prog w=.ok () w:=by
 have hk:∀ n:Nat,(Instr.checkKey e (n+1) 3 (.int .i64 a)).run prog w=.ok () w:=fun n=>by simp [Instr.checkKey,run_underlying underlying3]
 exact hk 9999
abbrev NN:=List (Int×Int)
def nL (o:Nat) (M:NN):List MapEntry:=(M.zipIdx o).map fun x=>⟨.int .i64 x.1.1,.int .i64 x.1.2,x.2⟩
def jH (M:NN):Array MapEntry:=(nL 0 M).toArray
def i9 (w:World) (b:Nat) (M:NN):Prop:=w.heap[b]? =some (.map (jH M) M.length)
def nO (w:World) (b:Nat) (M:NN):World:= { w with heap:=w.heap.setIfInBounds b (.map (jH M) M.length)}
def dN:NN→Int→Option (Nat×Int)
 | [],_=>none
 |x::M,e=>if e=x.1 then some (0,x.2) else (dN M e).map fun y=>(y.1+1,y.2)
theorem sM (e:Int):∀ (M:NN) (o i:Nat),Instr.findNow (.int .i64) (.int .i64 e) (nL o M) i=some ((dN M e).map fun y=>(i+y.1,.int .i64 y.2))
 | [],o,i=>by simp [nL,Instr.findNow,dN]
 |x::M,o,i=>by
  have ih:=sM e M (o+1) (i+1)
  have hm:nL o (x::M)=⟨.int .i64 x.1,.int .i64 x.2,o⟩::nL (o+1) M:=by simp [nL,List.zipIdx_cons]
  rw [hm]
  unfold Instr.findNow
  simp only [Instr.sameNow,if_true]
  by_cases h:e=x.1
  ·simp [dN,h]
  ·have h':(e==x.1)=false:=by simpa using h
   simp only [h',dN,if_neg h,ih]
   cases dN M e with
   |none=>simp
   |some y=>simp;omega
theorem jI (e:Int) (w:World) (M:NN):(Instr.findKey 3 (.int .i64 e) (jH M).toList).run prog w=.ok ((dN M e).map fun y=>(y.1,.int .i64 y.2)) w:=by
 have:=sM e M 0 0
 unfold Instr.findKey
 simp only [Sem.run_bind,run_underlying underlying3,Result.andThen_ok,jH,this]
 simp
theorem lk {w:World} {b:Nat} {M:NN} (h:i9 w b M):(getObj b).run prog w=.ok (.map (jH M) M.length) w:=by
 unfold i9 at h
 simp [getObj,Sem.run,h]
theorem ll {w:World} {b:Nat} {M:NN} (h:i9 w b M) (M':NN) (es:Array MapEntry) (c:Nat) (he:es=jH M') (hc:c=M'.length):(setObj b (.map es c)).run prog w=.ok () (nO w b M'):=by
 unfold i9 at h
 subst he hc
 simp [setObj,Sem.run,h,nO]
theorem i9.lt {w:World} {b:Nat} {M:NN} (h:i9 w b M):b<w.heap.size:=by
 rcases Nat.lt_or_ge b w.heap.size with h1|h1
 ·exact h1
 ·unfold i9 at h;rw [Array.getElem?_eq_none h1] at h;cases h
theorem wu {w:World} {b:Nat} {M M':NN} (h:i9 w b M):i9 (nO w b M') b M':=by
 have:=h.lt
 simp [i9,nO,this]
theorem i9.alloc {w:World} {b:Nat} {M:NN} (h:i9 w b M) (o:Obj):i9 (w.alloc o) b M:=(Below.heap_alloc w o b h.lt).trans h
theorem i9.below {w w':World} {b B:Nat} {M:NN} (h:i9 w b M) (hb:Below B w w') (hB:b<B):i9 w' b M:=(hb.block b hB).trans h
theorem yu (w:World) (b:Nat) (M:NN):(nO w b M).heap.size=w.heap.size:=by simp [nO]
theorem Bq {w:World} {b k:Nat} {M:NN} (h:k≠b):(nO w b M).heap[k]? =w.heap[k]? :=by simp only [nO];rw [Array.getElem?_setIfInBounds_ne (fun e=>h e.symm)]
theorem Bt (M:NN) (e:Int):eP M e=((dN M e).map fun y=>y.2).getD 0:=by
 induction M with
 |nil=>rfl
 |cons x M ih=>
  simp only [eP,dN]
  split
  ·rfl
  ·rw [ih];cases dN M e<;>rfl
theorem Bu {M:NN} {e v:Int} (h:dN M e=none):gI M e v=M++ [(e,v)]:=by
 induction M with
 |nil=>rfl
 |cons x M ih=>
  simp only [dN] at h
  split at h
  ·cases h
  ·rename_i hx
   simp only [gI,if_neg hx,H6]
   rw [ih (by cases hl:dN M e with
    |none=>rfl
    |some y=>rw [hl] at h;cases h)]
theorem Bv {M:NN} {e v:Int} {y:Nat×Int} (h:dN M e=some y):gI M e v=M.set y.1 (e,v)∧M[y.1]? =some (e,y.2):=by
 induction M generalizing y with
 |nil=>cases h
 |cons x M ih=>
  simp only [dN] at h
  split at h
  ·rename_i hx
   injection h with h
   subst h
   subst hx
   simp [gI]
  ·rename_i hx
   cases hl:dN M e with
   |none=>rw [hl] at h;cases h
   |some z=>
    rw [hl] at h
    injection h with h
    subst h
    have:=ih hl
    simp only [gI,if_neg hx,List.set_cons_succ,this.1]
    exact ⟨trivial,by simpa using this.2⟩
theorem sO {w:World} {b:Nat} {M:NN} (h:i9 w b M) (e:Int):(Instr.lookup 161 (.map (some b)) (.int .i64 e) false).run prog w=.ok (.int .i64 (eP M e)) w:=by
 have hz:(zeroValue 3).run prog w=.ok (.int .i64 0) w:=by go_simp
 rw [Bt]
 unfold Instr.lookup
 simp only [Sem.run_bind,run_underlying underlying161,Result.andThen_ok,lk h,Sem.run_pure,lj,jI]
 cases hl:dN M e with
 |none=>simp [hz]
 |some y=>simp
theorem uN:∀ (M:NN) (o i:Nat),(nL o M)[i]? =(M[i]?).map fun x=>⟨.int .i64 x.1,.int .i64 x.2,o+i⟩:=by
 intro M o i
 simp [nL,List.getElem?_map,List.getElem?_zipIdx]
 cases M[i]? <;>simp
theorem lu {w:World} {b:Nat} {M:NN} (h:i9 w b M) (e v:Int):(Instr.mapUpdate 161 (.map (some b)) (.int .i64 e) (.int .i64 v)).run prog w=.ok () (nO w b (gI M e v)):=by
 unfold Instr.mapUpdate
 simp only [Sem.run_bind,run_underlying underlying161,Result.andThen_ok,lk h,lj,jI]
 cases hl:dN M e with
 |none=>
  have hp:(jH M).push ⟨.int .i64 e,.int .i64 v,M.length⟩=jH (M++ [(e,v)]):=by simp [jH,nL,List.zipIdx_append]
  rw [Bu hl]
  simp only [Option.map_none,ll h (M++ [(e,v)]) _ (M.length+1) hp (by simp)]
 |some y=>
  obtain ⟨h1,h2⟩:=Bv (v:=v) hl
  have hlt:y.1<M.length:=(HV.1 h2).1
  have hm:(jH M)[y.1]? =some ⟨.int .i64 e,.int .i64 y.2,y.1⟩:=by
   have:=uN M 0 y.1
   rw [h2] at this
   simpa [jH] using this
  have hmod:(jH M).modify y.1 (fun x=> { x with key:=.int .i64 e,val:=.int .i64 v})=jH (M.set y.1 (e,v)):=by
   apply Array.ext_getElem?
   intro j
   have g1:=uN M 0 j
   have g2:=uN (M.set y.1 (e,v)) 0 j
   rw [Array.getElem?_modify]
   simp only [jH,HH] at g1 g2 ⊢
   rw [g1,g2]
   by_cases hij:y.1=j
   ·subst hij;simp [hlt]
   ·simp [hij]
  rw [h1]
  simp only [Option.map_some,hm,H9,Instr.keyThatStays,Result.andThen_ok,Sem.run_pure,Sem.run_bind]
  simp [Instr.sameBits,hmod,ll h (M.set y.1 (e,v)) _ M.length rfl (by simp)]
section
attribute [local go_sem ↓] cU
theorem qU (f:List Nd→Option Int):∀ (a b:List (List Nd)),gz f (a++b)=match gz f a with
  |none=>none
  |some ws=>(gz f b).map (ws++ ·)
 | [],b=>by simp only [H5,gz];cases gz f b<;>rfl
 |c::a,b=>by
  simp only [H6,gz,qU f a b]
  cases f c with
  |none=>rfl
  |some w=>
   simp only
   cases gz f a with
   |none=>rfl
   |some ws=>simp only [Option.map_some];cases gz f b<;>rfl
theorem Bw {f:List Nd→Option Int} {l:List (List Nd)} {k:Nat} {ws:List Int} {x:Int} (hk:k<l.length) (h:gz f (l.take k)=some ws) (hx:f l[k]=some x):gz f (l.take (k+1))=some (ws++ [x]):=by
 rw [HR hk,qU,h]
 simp only [gz,hx,Option.map_some]
theorem Bx {f:List Nd→Option Int} {l:List (List Nd)} {k:Nat} {ws:List Int} (hk:k<l.length) (h:gz f (l.take k)=some ws) (hx:f l[k]=none):gz f l=none:=by
 have hc:l=l.take k++(l[k]::l.drop (k+1)):=by rw [List.getElem_cons_drop,List.take_append_drop]
 rw [hc,qU,h]
 simp only [gz,hx,Option.map_none]
def sP (p:Lp) (l:List (List Nd)) (base:Nat) (e:Ending) (w':World):Prop:=match gz (fk p (-1)) l with
 |none=>e=.returned (.tuple #[.slice none 0 0,.bool false])
 |some ws=>∃ B cp,e=.returned (.tuple #[.slice B ws.length cp,.bool (decide (l.length≤4))])∧cD w' base (.slice B ws.length cp) ws
theorem Sl.code {w:World} {B:Nat} {A:Option Addr} {l:List (List Nd)} (h:Sl 1 ro w B A l) {i:Nat} (hi:i<l.length):∃ b o A' c',A=some ⟨b,o,none⟩∧b<B∧w.cell? ⟨b,o+i,none⟩=some (.slice A' l[i].length c')∧Sl 6 Ab w B A' l[i]:=by
 obtain ⟨b,o,u,hA,hb,hc,A',c',hr,hs⟩:=h.at1 hi
 cases hr
 exact ⟨b,o,A',c',hA,hb,hc,hs⟩
theorem sQ (A1 A2 A3 A4 A5 A6 A7 A8 A9 A10 A11 A12:Option Addr) (p:Lp) (c1 c2 c3 c4 c5 c6 c7 c8 c9 c10 c11 c12:Nat) (l:List (List Nd)) (A:Option Addr) (cap:Nat) (w:World) (h:cJ w w.heap.size A1 A2 A3 A4 A5 A6 A7 A8 A9 A10 A11 A12 p) (hk:Sl 1 ro w w.heap.size A l) (hsm:l.length≤sm):
  Calls prog 104 #[.agg #[.slice A1 p.heads.length c1,.slice A2 p.metas.length c2,.slice A3 p.steps.length c3,.slice A4 p.acts.length c4,.slice A5 p.tabs.length c5,.slice A6 p.control.length c6,.slice A7 p.emit.length c7,.slice A8 p.nh.length c8,.slice A9 p.nf.length c9,.slice A10 p.nm.length c10,.slice A11 p.na.length c11,.slice A12 p.nt.length c12],.slice A l.length cap] w fun e w'=>sP p l w.heap.size e w'∧Below w.heap.size w w':=by
 have hlen:=hk.len
 have hsm':l.length≤1048576:=hsm
 obtain ⟨wz,hwz,hsz,hbz,hcz,-⟩:=ak w #[.slice A1 p.heads.length c1,.slice A2 p.metas.length c2,.slice A3 p.steps.length c3,.slice A4 p.acts.length c4,.slice A5 p.tabs.length c5,.slice A6 p.control.length c6,.slice A7 p.emit.length c7,.slice A8 p.nh.length c8,.slice A9 p.nf.length c9,.slice A10 p.nm.length c10,.slice A11 p.na.length c11,.slice A12 p.nt.length c12] 33
 have hP:=aa (h.below hbz)
 have hC:=aa (hk.below aS hbz)
 have hl1:w.heap.size<wz.heap.size:=by omega
 replace hbz:=aa hbz
 replace hsz:=aa hsz
 clear h hk
 go_enter func104,ntmps104
 go_wp2
 go_loopw [6,8,9,10,13] (fun v _ _ _ i wr=>∃ (k:Nat) (ws:List Int) (B:Option Addr) (cp:Nat),k≤l.length∧i=.int .i64 k∧v=.slice B ws.length cp∧Hid (ws.length=k)∧Hid (gz (fk p (-1)) (l.take k)=some ws)∧Hid (cD wr wz.heap.size (.slice B ws.length cp) ws)∧Hid (Below wz.heap.size wz wr)) (fun _ _ _ _ i _=>l.length-(intOf i).toNat)
 case atStart=>exact ⟨0,[],none,0,Hm _,rfl,rfl,aa rfl,aa rfl,aa (cD.nil_ _ _),aa (Hf _ _)⟩
 case round=>
  obtain ⟨k,ws,B,cp,hk,rfl,rfl,hwk,hf,hI,hG⟩:=hrel
  have hzr:=hG.out.size
  have hgo:=aa (fun W (hW:Below wz.heap.size wr W)=>hbz.out.trans ((hG.out.trans hW).mono hbz.out.size))
  by_cases hlt:k<l.length
  focus
   have hkz:(k:Int)<(l.length:Int):=by omega
   obtain ⟨b,o,A',c',rfl,hb,hcell,hE⟩:=(hC.out.below aS (hG.out.mono hbz.out.size)).code hlt
   have Yn:=fun i=>(hG.out.cell (p:=⟨w.heap.size,i,none⟩) hl1).trans (hcz i)
   have y0:=Yn 0
   have y1:=Yn 1
   have y2:=Yn 2
   have y3:=Yn 3
   have y4:=Yn 4
   have y5:=Yn 5
   have y6:=Yn 6
   have y7:=Yn 7
   have y8:=Yn 8
   have y9:=Yn 9
   have y10:=Yn 10
   have y11:=Yn 11
   simp only [HH,HK,HM] at y0 y1 y2 y3 y4 y5 y6 y7 y8 y9 y10 y11
   have hW:=iu A1 A2 A3 A4 A5 A6 A7 A8 A9 A10 A11 A12 p c1 c2 c3 c4 c5 c6 c7 c8 c9 c10 c11 c12 (-1) l[k] A' c' wr ((hP.out.below (hG.out.mono hbz.out.size)).more (by omega)) (hE.more bq (by omega))
   unfold Cw at hW
   cases ho:fk p (-1) l[k] with
   |none=>
    have hv:=aa (Bx hlt hf.out ho)
    rw [ho] at hW
    replace hW:=aa hW
    clear Yn hE
    go_wp2_with (go_at_call 58;refine hW.out.mono ?_;rintro e w4 ⟨rfl,hb4⟩)
    refine bodyPost_ret (results_tmp2 rfl _ _ _) rfl ⟨?_,hgo.out _ (hb4.mono hzr)⟩
    unfold sP
    rw [hv.out]
    rfl
   |some x=>
    have hv:=aa (Bw hlt hf.out ho)
    rw [ho] at hW
    replace hW:=aa hW
    clear Yn hE
    go_upto_region 8 with (go_at_call 58;refine hW.out.mono ?_;rintro e w4 ⟨rfl,hb4⟩)
    obtain ⟨v',w',hr,hI',hB'⟩:=jz x (hI.out.below hb4 (Hh _)) (Hj hzr hb4.size) (by have:=hwk.out;unfold dI;omega)
    obtain ⟨Au,cu,rfl⟩:=hI'.form
    have hN:=aa (hG.out.trans ((hb4.mono hzr).trans hB'))
    have hl5:=aa (show (ws++ [x]).length=k+1 from by simp [hwk.out])
    replace hI':=aa hI'
    simp only [Hu,Hp,HY,HS] at hr
    clear hB' hb4
    go_wp2
    go_roundw
    case rel=>exact ⟨k+1,ws++ [x],Au,cu,by omega,by go_num,by simp,hl5,hv,hI',hN⟩
    case measure=>simp [intOf];omega
  rotate_right
  focus
   have hke:k=l.length:=by omega
   rw [hke,HZ] at hf
   have hgE:=aa (hgo.out _ (Hf _ _))
   by_cases h4:l.length≤4
   have h4z:decide ((l.length:Int)≤4)=true:=decide_eq_true (by omega)
   have h4d:=aa (decide_eq_true h4)
   rotate_right
   have h4z:decide ((l.length:Int)≤4)=false:=decide_eq_false (by omega)
   have h4d:=aa (decide_eq_false h4)
  all_goals
   go_wp2
   refine bodyPost_ret (results_tmp2 rfl _ _ _) rfl ⟨?_,hgE.out⟩
   unfold sP
   rw [hf.out]
   exact ⟨B,cp,by rw [h4d.out]<;>rfl,hI.out.mono (by omega)⟩
end
theorem yx:∀ args w,(callFunc 105 args).run prog w=.ok (.enter 105 args) w:=enters_of func105 (by kernel_rfl) rfl
theorem yy:∀ args w,(callFunc 106 args).run prog w=.ok (.enter 106 args) w:=enters_of func106 (by kernel_rfl) rfl
theorem sR (p:Lp) (B:Option Addr) (c x:Nat) (t:Int) (w:World) (hl:p.steps.length≤9223372036854775807) (hc:w.cell? ⟨x,2,none⟩=some (.slice B p.steps.length c)):
  Calls prog 102 #[.int .i64 t,.pointer (some ⟨x,0,none⟩)] w fun e w'=>e=.returned (.bool (gJ p t))∧w=w':=by
 go_enter func102,ntmps102
 go_wp2
 all_goals go_ret
 all_goals refine ⟨ad ?_,rfl⟩
 all_goals (unfold gJ;first|rfl|(rw [Hr];simp [*];done)|(rw [Hr];simp [*];omega))
theorem By (p:Lp) (B:Option Addr) (c x:Nat) (t:Int) (w:World) (hl:p.heads.length≤9223372036854775807) (hc:w.cell? ⟨x,0,none⟩=some (.slice B p.heads.length c)):
  Calls prog 103 #[.int .i64 t,.pointer (some ⟨x,0,none⟩)] w fun e w'=>e=.returned (.bool (dJ p.heads.length t))∧w=w':=by
 go_enter func103,ntmps103
 go_wp2
 all_goals go_ret
 all_goals refine ⟨ad ?_,rfl⟩
 all_goals (unfold dJ;first|rfl|(rw [Hr];simp [*];done)|(rw [Hr];simp [*];omega))
theorem yz (p:Lp) (B:Option Addr) (c x y:Nat) (t:Int) (w:World) (hl:p.heads.length≤9223372036854775807) (hc:w.cell? ⟨x,0,none⟩=some (.slice B p.heads.length c))
  (hf:w.cell? ⟨y,0,none⟩=some (.func (.func 103) #[] #[.pointer (some ⟨x,0,none⟩)])):
  Calls prog 105 #[.int .i64 t,.pointer (some ⟨y,0,none⟩)] w fun e w'=>e=.returned (.bool (!dJ p.heads.length t))∧w=w':=by
 have hC:=aa (By p B c x t w hl hc)
 go_enter func105,ntmps105
 go_wp2_with (go_at_call 103;refine hC.out.mono ?_;rintro e w' ⟨rfl,rfl⟩)
 go_ret
 exact ⟨rfl,rfl⟩
def uO (p:Int→Bool) (xs:List Int):Int:=match xs.findIdx? p with
 |some i=>(i:Int)
 |none=> -1
theorem Dh {p:Int→Bool} {xs:List Int} {k:Nat} (hk:k<xs.length) (h:(xs.take k).any p=false) (hp:p xs[k]=true):uO p xs=(k:Int):=by
 have:xs.findIdx? p=some k:=by
  rw [List.findIdx?_eq_some_iff_getElem]
  refine ⟨hk,hp,fun j hj=> ?_⟩
  have:=List.any_eq_false.1 h xs[j] (List.mem_take_iff_getElem.2 ⟨j,by omega,rfl⟩)
  exact this
 rw [uO,this]
theorem Di {p:Int→Bool} {xs:List Int} (h:xs.any p=false):uO p xs= -1:=by
 have:xs.findIdx? p=none:=by
  rw [List.findIdx?_eq_none_iff]
  intro x hx
  simpa using List.any_eq_false.1 h x hx
 rw [uO,this]
theorem sS (p:Int→Bool) (xs:List Int):decide (0≤uO p xs)=xs.any p:=by
 unfold uO
 cases h:xs.findIdx? p with
 |none=>
  rw [List.findIdx?_eq_none_iff] at h
  have:xs.any p=false:=List.any_eq_false.2 fun x hx=>by simp [h x hx]
  rw [this];rfl
 |some i=>
  rw [List.findIdx?_eq_some_iff_getElem] at h
  obtain ⟨hi,hp,-⟩:=h
  rw [gN hi hp]
  simp
def FJ (B:Nat) (fid:Nat) (lb:Array Value) (p:Int→Bool) (xs:List Int) (w:World):Prop:=
 ∀ (x:Int) (W:World),x∈xs→Below B w W→Calls prog fid (#[.int .i64 x]++lb) W fun e w'=>e=.returned (.bool (p x))∧Below W.heap.size W w'
theorem oO (fid:Nat) (lb:Array Value) (eg:∀ args w,(callFunc fid args).run prog w=.ok (.enter fid args) w) (p:Int→Bool) (A:Option Addr) (cap:Nat) (xs:List Int) (w:World) (h:Sl 1 bd w w.heap.size A xs) (hf:FJ w.heap.size fid lb p xs w):
  Calls prog 153 #[.slice A xs.length cap,.func (.func fid) #[] lb] w fun e w'=>e=.returned (.int .i64 (uO p xs))∧Below w.heap.size w w':=by
 have hl:=h.len
 replace hf:=aa hf
 go_enter func153,ntmps153
 go_wp2
 go_loopw [5,8] (fun _ i wr=>∃ k:Nat,k≤xs.length∧i=.int .i64 k∧Hid ((xs.take k).any p=false)∧Hid (Below w.heap.size w wr)) (fun _ i _=>xs.length-(intOf i).toNat)
 case atStart=>exact ⟨0,Hm _,rfl,aa (by simp),aa (Hf _ _)⟩
 case round=>
  obtain ⟨k,hk,rfl,hc,hbr⟩:=hrel
  have hcw:=ah hbr.out
  by_cases hlt:k<xs.length
  ·obtain ⟨b,o,rfl,hb,hcell⟩:=h.int hlt
   have hltz:(k:Int)<(xs.length:Int):=by omega
   clear h
   have hcall:=hf.out xs[k] wr (Ho _) hbr.out
   cases hp:p xs[k] with
   |true=>
    rw [hp] at hcall
    have hv:=aa (Dh hlt hc.out hp)
    clear hp
    go_wp2_with (go_at_fn fid;refine hcall.mono ?_;rintro e w' ⟨rfl,hb1⟩)
    go_ret
    exact ⟨aq hv.out.symm,hbr.out.trans (hb1.mono hbr.out.size)⟩
   |false=>
    rw [hp] at hcall
    have hv:=aa (cw hlt hc.out hp)
    clear hp
    go_wp2_with (go_at_fn fid;refine hcall.mono ?_;rintro e w' ⟨rfl,hb1⟩)
    go_roundw
    case rel=>exact ⟨k+1,by omega,by go_num,hv,aa (hbr.out.trans (hb1.mono hbr.out.size))⟩
    case measure=>simp [intOf];omega
  ·have hv:=aa (Di (dp hk hlt hc.out))
   go_wp2
   go_ret
   exact ⟨aq hv.out.symm,hbr.out⟩
theorem fZ (fid:Nat) (lb:Array Value) (eg:∀ args w,(callFunc fid args).run prog w=.ok (.enter fid args) w) (p:Int→Bool) (A:Option Addr) (cap:Nat) (xs:List Int) (w:World) (h:Sl 1 bd w w.heap.size A xs) (hf:FJ w.heap.size fid lb p xs w):
  Calls prog 94 #[.slice A xs.length cap,.func (.func fid) #[] lb] w fun e w'=>e=.returned (.bool (xs.any p))∧Below w.heap.size w w':=by
 have hv:=aa (sS p xs)
 replace hf:=aa hf
 go_enter func94,ntmps94
 go_wp2_with (go_at_call 153;refine (oO fid lb eg p A cap xs _ h hf.out).mono ?_;rintro e w' ⟨rfl,hb⟩)
 go_ret
 exact ⟨ad hv.out,hb⟩
theorem nP (d:NN→Int→Bool×NN):∀ (a b:List Int) (M:NN),bM d M (a++b)=if (bM d M a).1=true then bM d M a else bM d (bM d M a).2 b
 | [],b,M=>by simp [bM]
 |x::a,b,M=>by
  simp only [H6,bM]
  by_cases h:(d M x).1=true
  ·simp [h]
  ·simp only [if_neg h];exact nP d a b _
theorem pQ {d:NN→Int→Bool×NN} {xs:List Int} {k:Nat} {M Mk:NN} (hk:k<xs.length) (h:bM d M (xs.take k)=(false,Mk)):bM d M (xs.take (k+1))=d Mk xs[k]:=by
 rw [HR hk,nP,h]
 simp only [Hy,if_false,bM]
 by_cases h2:(d Mk xs[k]).1=true
 ·rw [if_pos h2];exact Prod.ext h2.symm rfl
 ·rw [if_neg h2];exact Prod.ext (by simpa using h2) rfl
theorem pR {d:NN→Int→Bool×NN} {xs:List Int} {k:Nat} {M M':NN} (h:bM d M (xs.take k)=(true,M')):bM d M xs=(true,M'):=by
 have:xs=xs.take k++xs.drop k:=(List.take_append_drop k xs).symm
 rw [this,nP,h];rfl
def ww (n F:Nat) (M:NN):Prop:=(∀ j,0≤eP M j)∧white n M≤F
theorem qV {n F:Nat} {M:NN} {i v:Int} (h:ww n F M) (hv:0<v):ww n F (gI M i v):=by
 refine ⟨fun j=> ?_,Hj (mK fun j hj=> ?_) h.2⟩
 ·rw [o7];split
  ·omega
  ·exact h.1 j
 ·rw [o7] at hj
  split at hj
  ·omega
  ·exact hj
theorem sT {n F:Nat} {d:NN→Int→Bool×NN}:∀ (l:List Int) (M:NN),ww n F M→(∀ x∈l,∀ M,ww n F M→ww n F (d M x).2)→ww n F (bM d M l).2
 | [],M,h,_=>h
 |x::l,M,h,hd=>by
  simp only [bM]
  have hx:=hd x (by simp) M h
  split
  ·exact hx
  ·exact sT l _ hx fun y hy=>hd y (by simp [hy])
theorem qW {n:Nat} (g:Int→List Int):∀ (f F:Nat) (M:NN) (i:Int),ww n F M→ww n F (im g f M i).2
 |0,F,M,i,h=>h
 |f+1,F,M,i,h=>by
  simp only [im]
  split
  ·exact h
  ·split
   ·exact h
   ·exact qV (sT _ _ (qV h (by omega)) fun x _ M hM=>qW g f F M x hM) (by omega)
def FU (mb:Nat) (fid:Nat) (lb:Array Value) (d:NN→Int→Bool×NN) (I:NN→Prop) (xs:List Int) (w:World):Prop:=
 ∀ (x:Int) (W:World) (M:NN),x∈xs→Gr mb w W→i9 W mb M→I M→Calls prog fid (#[.int .i64 x]++lb) W fun e w'=>e=.returned (.bool (d M x).1)∧i9 w' mb (d M x).2∧Gr mb W w'∧I (d M x).2
theorem uP (fid:Nat) (lb:Array Value) (eg:∀ args w,(callFunc fid args).run prog w=.ok (.enter fid args) w) (mb:Nat) (d:NN→Int→Bool×NN) (I:NN→Prop) (M:NN) (A:Option Addr) (cap:Nat) (xs:List Int) (w:World) (h:Sl 1 bd w w.heap.size A xs) (hne:∀ b o,A=some ⟨b,o,none⟩→b≠mb) (hM:i9 w mb M) (hI:I M) (hf:FU mb fid lb d I xs w):
  Calls prog 153 #[.slice A xs.length cap,.func (.func fid) #[] lb] w fun e w'=>∃ r:Int,e=.returned (.int .i64 r)∧decide (0≤r)=(bM d M xs).1∧i9 w' mb (bM d M xs).2∧Gr mb w w':=by
 have hl:=h.len
 replace hf:=aa hf
 go_enter func153,ntmps153
 go_wp2
 go_loopw [5,8] (fun _ i wr=>∃ (k:Nat) (Mk:NN),k≤xs.length∧i=.int .i64 k∧Hid (bM d M (xs.take k)=(false,Mk))∧Hid (i9 wr mb Mk)∧Hid (I Mk)∧Hid (Gr mb w wr)) (fun _ i _=>xs.length-(intOf i).toNat)
 case atStart=>exact ⟨0,M,Hm _,rfl,aa rfl,aa hM,aa hI,aa (Gr.refl _ _)⟩
 case round=>
  obtain ⟨k,Mk,hk,rfl,hc,hN,hIk,hG⟩:=hrel
  by_cases hlt:k<xs.length
  ·obtain ⟨b,o,rfl,hb,hcell⟩:=h.int hlt
   have hltz:(k:Int)<(xs.length:Int):=by omega
   have hbne:=hne b o rfl
   have hcr:=(hG.out.cell (i:=o+k) hb hbne).trans hcell
   have hcall:=hf.out xs[k] wr Mk (Ho _) hG.out hN.out hIk.out
   have hst:=aa (pQ hlt hc.out)
   clear h hne hcell
   generalize d Mk xs[k]=r at hcall hst
   obtain ⟨r,M'⟩:=r
   simp only at hcall
   cases r with
   |true=>
    have hv:=aa (pR hst.out)
    replace hcall:=aa hcall
    go_wp2_with (go_at_fn fid;refine hcall.out.mono ?_;rintro e w' ⟨rfl,hN',hG',hI'⟩)
    go_ret
    refine ⟨(k:Int),rfl,?_,?_,hG.out.trans hG'⟩
    ·rw [hv.out];simp
    ·rw [hv.out];exact hN'
   |false=>
    replace hcall:=aa hcall
    go_wp2_with (go_at_fn fid;refine hcall.out.mono ?_;rintro e w' ⟨rfl,hN',hG',hI'⟩)
    go_roundw
    case rel=>exact ⟨k+1,M',by omega,by go_num,hst,aa hN',aa hI',aa (hG.out.trans hG')⟩
    case measure=>simp [intOf];omega
  ·have hke:k=xs.length:=by omega
   rw [hke,HZ] at hc
   go_wp2
   go_ret
   refine ⟨-1,rfl,?_,?_,hG.out⟩
   ·rw [hc.out];rfl
   ·rw [hc.out];exact hN.out
theorem oP (fid:Nat) (lb:Array Value) (eg:∀ args w,(callFunc fid args).run prog w=.ok (.enter fid args) w) (mb:Nat) (d:NN→Int→Bool×NN) (I:NN→Prop) (M:NN) (A:Option Addr) (cap:Nat) (xs:List Int) (w:World) (h:Sl 1 bd w w.heap.size A xs) (hne:∀ b o,A=some ⟨b,o,none⟩→b≠mb) (hM:i9 w mb M) (hI:I M) (hf:FU mb fid lb d I xs w):
  Calls prog 94 #[.slice A xs.length cap,.func (.func fid) #[] lb] w fun e w'=>e=.returned (.bool (bM d M xs).1)∧i9 w' mb (bM d M xs).2∧Gr mb w w':=by
 have hX:=aa (uP fid lb eg mb d I M A cap xs w h hne hM hI hf)
 clear h hne hM hI hf
 generalize bM d M xs=R at hX ⊢
 go_enter func94,ntmps94
 go_wp2_with (go_at_call 153;refine hX.out.mono ?_;rintro e w' ⟨r,rfl,hr,hN,hG⟩;replace hr:=aa hr)
 go_ret
 exact ⟨ad hr.out,hN,hG⟩
section
attribute [local go_sem ↓] cU
theorem pS:∀ args w,(callFunc 110 args).run prog w=.ok (.enter 110 args) w:=enters_of func110 (by kernel_rfl) rfl
structure Fq (w:World) (lb db fb mb:Nat) (A:Option Addr) (c:Nat) (l:List lI):Prop where
 done:w.cell? ⟨db,0,none⟩=some (.map (some mb))
 list:w.cell? ⟨lb,0,none⟩=some (.slice A l.length c)
 self:w.cell? ⟨fb,0,none⟩=some (.func (.func 110) #[] #[.pointer (some ⟨db,0,none⟩),.pointer (some ⟨lb,0,none⟩),.pointer (some ⟨fb,0,none⟩)])
 stp:Sl 4 oL w mb A l
 lt:lb<mb∧mb<db∧db<w.heap.size∧mb<fb∧fb<w.heap.size
theorem Fq.gr {w W:World} {lb db fb mb:Nat} {A:Option Addr} {c:Nat} {l:List lI} (h:Fq w lb db fb mb A c l) (hg:Gr mb w W):Fq W lb db fb mb A c l:=by
 obtain ⟨h1,h2,h3,h4,h5⟩:=h.lt
 refine ⟨(hg.cell h3 (by omega)).trans h.done,(hg.cell (by omega) (by omega)).trans h.list,(hg.cell h5 (by omega)).trans h.self,h.stp.below gj (hg.below (Hh _) (by omega)),h1,h2,He h3 hg.size,h4,He h5 hg.size⟩
theorem Bz {w:World} {mb:Nat} (M:NN):Gr mb w (nO w mb M):=⟨rfl,rfl,rfl,by rw [yu];exact Hh _,fun k _ hn=>Bq (by simpa using hn)⟩
theorem Sl.stp {w:World} {B:Nat} {A:Option Addr} {xs:List lI} (h:Sl 4 oL w B A xs) {i:Nat} (hi:i<xs.length):∃ b o A1 A2 A3 c1 c2 c3,A=some ⟨b,o,none⟩∧b<B∧w.cell? ⟨b,o+i*4,none⟩=some (.slice A1 xs[i].takes.length c1)∧w.cell? ⟨b,o+i*4+1,none⟩=some (.slice A2 xs[i].keys.length c2)∧w.cell? ⟨b,o+i*4+2,none⟩=some (.slice A3 xs[i].brs.length c3)∧w.cell? ⟨b,o+i*4+3,none⟩=some (.int .i64 xs[i].to)∧
  Sl 1 bd w B A1 xs[i].takes∧Sl 1 ro w B A2 xs[i].keys∧Sl 2 xm w B A3 xs[i].brs∧xs[i].keys.length≤sm:=by
 obtain ⟨b,o,ecs,hA,hb,hl,hc,A1,A2,A3,c1,c2,c3,rfl,h1,h2,h3,h4⟩:=h.2 i xs[i] (Hn hi)
 exact ⟨b,o,A1,A2,A3,c1,c2,c3,hA,hb,hc 0 _ rfl,hc 1 _ rfl,hc 2 _ rfl,hc 3 _ rfl,h1,h2,h3,h4⟩
theorem Sl.br {w:World} {B:Nat} {A:Option Addr} {xs:List Br} (h:Sl 2 xm w B A xs) {i:Nat} (hi:i<xs.length):∃ b o A1 c1,A=some ⟨b,o,none⟩∧b<B∧w.cell? ⟨b,o+i*2,none⟩=some (.slice A1 xs[i].pats.length c1)∧w.cell? ⟨b,o+i*2+1,none⟩=some (.int .i64 xs[i].to)∧Sl 4 mR w B A1 xs[i].pats:=by
 obtain ⟨b,o,ecs,hA,hb,hl,hc,A1,c1,rfl,h1⟩:=h.2 i xs[i] (Hn hi)
 exact ⟨b,o,A1,c1,hA,hb,hc 0 _ rfl,hc 1 _ rfl,h1⟩
theorem nQ {l:List lI} {k:Nat} (h:k<l.length):bk l (k:Int)=jp l[k]:=by unfold bk;rw [iQ k h];rfl
theorem BA (l:List lI) (A:Option Addr) (c lb db fb mb:Nat) (hg:∀ i,∀ t∈bk l i,t<l.length) (hbr:∀ s∈l,s.brs.length≤1000):∀ (f F:Nat) (M:NN) (i:Int) (w:World),ww l.length F M→F<f→i<l.length→Fq w lb db fb mb A c l→i9 w mb M→
  Calls prog 110 #[.int .i64 i,.pointer (some ⟨db,0,none⟩),.pointer (some ⟨lb,0,none⟩),.pointer (some ⟨fb,0,none⟩)] w fun e w'=>e=.returned (.bool (im (bk l) f M i).1)∧i9 w' mb (im (bk l) f M i).2∧Gr mb w w':=by
 intro f
 induction f with
 |zero=>intro F M i w _ hF;omega
 |succ f ih=>
  intro F M i w hM hF hi hC hN
  have hd:im (bk l) (f+1) M i=if i<0 then (false,M) else if 0<eP M i then (eP M i==1,M) else
   ((bM (im (bk l) f) (gI M i 1) (bk l i)).1,gI (bM (im (bk l) f) (gI M i 1) (bk l i)).2 i 2):=rfl
  rw [hd]
  clear hd
  have cd:=hC.done
  have cl:=hC.list
  have cf:=hC.self
  obtain ⟨q1,q2,q3,q4,q5⟩:=hC.lt
  have ql:lb<w.heap.size:=by omega
  have hls:=hC.stp.len
  have hlk:=sO hN i
  by_cases i0:i<0
  ·simp only [if_pos i0]
   have d1:decide (i<0)=true:=decide_eq_true i0
   have d2:decide (0≤i)=false:=decide_eq_false (by omega)
   go_enter func110,ntmps110
   go_wp2
   all_goals first|(exfalso;omega)|(go_ret;exact ⟨rfl,hN,Gr.refl _ _⟩)
  ·simp only [if_neg i0]
   by_cases i1:0<eP M i
   ·simp only [if_pos i1]
    generalize eP M i=x at*
    go_enter func110,ntmps110
    go_wp2
    all_goals first|(exfalso;omega)|(go_ret;exact ⟨rfl,hN,Gr.refl _ _⟩)
   ·simp only [if_neg i1]
    have hz:eP M i=0:=by have:=hM.1 i;omega
    obtain ⟨k,rfl⟩:=Hv (show 0≤i by omega)
    have hk:k<l.length:=by omega
    rw [nQ hk]
    have hwp:=pd (n:=l.length) (M:=M) (i:=(k:Int)) (by omega) hi hz
    have hF1:1≤F:=by have:=hM.2;omega
    have hM1:ww l.length (F-1) (gI M (k:Int) 1):=⟨(qV hM (by omega)).1,by have:=hM.2;omega⟩
    have hup:=lu hN (k:Int) 1
    obtain ⟨w1,hw1⟩:∃ w1,nO w mb (gI M (k:Int) 1)=w1:=⟨_,rfl⟩
    rw [hw1] at hup
    have hG1:Gr mb w w1:=by rw [←hw1];exact Bz _
    have hN1:i9 w1 mb (gI M (k:Int) 1):=by rw [←hw1];exact wu hN
    have hC1:=hC.gr hG1
    rw [hz] at hlk
    obtain ⟨b,o,A1,A2,A3,c1,c2,c3,rfl,hb,-,n1,n2,n3,-,hKs,hBr,-⟩:=hC1.stp.stp hk
    have hks0:=hKs.len
    have hkz:(k:Int)<(l.length:Int):=by omega
    have hsm:=hbr l[k] (Ho hk)
    have hbl:mb<w1.heap.size:=hN1.lt
    have hgk:∀ t∈jp l[k],t<l.length:=fun t ht=>hg (k:Int) t (by rw [nQ hk];exact ht)
    have e1:=hC1.done
    have e2:=hC1.list
    have e3:=hC1.self
    obtain ⟨s1,s2,s3,s4,s5⟩:=hC1.lt
    have hC1':=aa hC1
    have hG1':=aa hG1
    have hN1':=aa hN1
    replace hN:=aa hN
    have hT:jp l[k]=(if l[k].keys.length=0 then [l[k].to] else [])++l[k].brs.map Br.to:=rfl
    clear hC hC1 hG1 hN1
    generalize hts:jp l[k]=ts at*
    generalize l[k]=sk at*
    obtain ⟨tk,ks,bs,tt⟩:=sk
    simp only at n1 n2 n3 hBr hsm hT hks0
    clear hts
    have hts:=aa hT.symm
    have hgk':=aa hgk
    clear hgk hT
    have hbl2:=hBr.len
    obtain ⟨w2,hw2,hs2,hb2,hc2,-⟩:=ak w1 #[.int .i64 tt] 3
    have hI2:cD w2 w1.heap.size (.slice (some ⟨w1.heap.size,0,none⟩) 1 1) [tt]:=⟨rfl,.inr ⟨w1.heap.size,1,#[.int .i64 tt],rfl,Hh _,by rw [←hw2];exact heap_alloc_new w1 _,Hh _,by decide,rfl,rfl⟩⟩
    have kb2:=ah hb2
    have n1':=(kb2.1 _ (o+k*4+1) (by omega)).trans n1
    have n2':=(kb2.1 _ (o+k*4+2) (by omega)).trans n2
    have n3':=(kb2.1 _ (o+k*4+3) (by omega)).trans n3
    have e2':=(kb2.1 lb 0 (by omega)).trans e2
    have hlb2:lb<w2.heap.size:=by omega
    have hbb2:b<w2.heap.size:=by omega
    replace hI2:=aa hI2
    replace hs2:=aa hs2
    replace hb2:=aa hb2
    clear kb2 hc2
    go_enter func110,ntmps110
    go_upto_region 4 with fail
    all_goals first|(exfalso;omega)|skip
    go_upto_if 40 with fail
    go_cut [6] (fun v wx=>∃ B cp,v=.slice B (if ks.length=0 then [tt] else []).length cp∧cD wx w1.heap.size (.slice B (if ks.length=0 then [tt] else []).length cp) (if ks.length=0 then [tt] else [])∧wx=w2)
    case first=>
     by_cases h0:ks.length=0
     ·have h0z:¬(0:Int)<(ks.length:Int):=by omega
      replace h0:=aa h0
      go_wp2
      go_meet
      simp only [if_pos h0.out]
      exact ⟨some ⟨w1.heap.size,0,none⟩,1,rfl,hI2.out,trivial⟩
     ·have h0z:(0:Int)<(ks.length:Int):=by omega
      replace h0:=aa h0
      go_wp2
      go_meet
      simp only [if_neg h0.out]
      exact ⟨none,0,rfl,cD.nil_ _ _,trivial⟩
    case rest=>
     obtain ⟨B,cp,rfl,hI,rfl⟩:=hcut
     have hT1:(if ks.length=0 then [tt] else []).length≤1:=by split<;>simp
     generalize (if ks.length=0 then [tt] else [])=T0 at hI hts hT1 ⊢
     have hbsz:(bs.length:Int)≤9223372036854775807:=by omega
     have hI0:=aa hI
     clear hI
     go_wp2
     go_loopw [6,8,47] (fun v _ i wr=>∃ (j:Nat) (B:Option Addr) (cp n:Nat),j≤bs.length∧i=.int .i64 j∧v=.slice B n cp∧Hid (n=(T0++(bs.take j).map Br.to).length)∧Hid (cD wr w1.heap.size (.slice B n cp) (T0++(bs.take j).map Br.to))∧Hid (Below w1.heap.size w1 wr)) (fun _ _ i _=>bs.length-(intOf i).toNat)
     case atStart=>exact ⟨0,B,cp,T0.length,Hm _,rfl,rfl,aa (by simp),aa (by simpa using hI0.out),hb2⟩
     case round=>
      obtain ⟨j,B,cp,n,hj,rfl,rfl,hn,hI,hbw⟩:=hrel
      have hzr:=hbw.out.size
      by_cases hlt:j<bs.length
      ·have hjz:(j:Int)<(bs.length:Int):=by omega
       obtain ⟨b',o',A',c',rfl,hb',m0,m1,-⟩:=hBr.br hlt
       have m0r:=(bH hbw.out b' (o'+j*2) (by omega)).trans m0
       have m1r:=(bH hbw.out b' (o'+j*2+1) (by omega)).trans m1
       have hst:=aa (show T0++(bs.take (j+1)).map Br.to=(T0++(bs.take j).map Br.to)++ [bs[j].to] from by rw [HR hlt,List.map_append,HP];rfl)
       have hnl:n≤1001:=by have:=hn.out;simp at this;omega
       generalize bs[j]=x at*
       obtain ⟨pats,bt⟩:=x
       simp only at m0r m1r hst
       obtain ⟨wn,hwn,hsn,hbn,hcn,-⟩:=ak wr #[.slice A' pats.length c',.int .i64 bt] 104
       have p0:wn.cell? ⟨wr.heap.size,0,none⟩=some (.slice A' pats.length c'):=hcn 0
       have p1:wn.cell? ⟨wr.heap.size,1,none⟩=some (.int .i64 bt):=hcn 1
       obtain ⟨v',w',hr,hI',hB'⟩:=jz bt (hI.out.below hbn (Hh _)) (Hj hzr hbn.size) (by rw [←hn.out];unfold dI;omega)
       obtain ⟨Au,cu,rfl⟩:=hI'.form
       have hN:=aa (hbw.out.trans ((hbn.mono hzr).trans hB'))
       have hwrn:wr.heap.size<wn.heap.size:=by omega
       rw [←hst.out] at hI' hr
       replace hsn:=aa hsn
       have hI2':=aa hI'
       generalize hm:(T0++(bs.take (j+1)).map Br.to).length=m at hr hI2'
       replace hm:=aa hm.symm
       clear hI' hB' hbn hcn hI
       go_wp2
       go_roundw
       case rel=>exact ⟨j+1,Au,cu,m,by omega,by go_num,rfl,hm,hI2',hN⟩
       case measure=>simp [intOf];omega
      ·have hje:j=bs.length:=by omega
       subst hje
       rw [HZ,hts.out] at hn hI
       obtain ⟨A',cap',e,hSl⟩:=hI.out.sl
       injection e with ea eb ec
       have hne:∀ b2 o2,B=some ⟨b2,o2,none⟩→b2≠mb:=fun b2 o2 hB=>by
        have:=(World.ownsRow.lt hI.out b2 (by rw [hB];rfl)).1
        omega
       subst ea ec
       have hGr:=Gr.of (g:=mb) (Below.mono (hbw.out) (Hh _))
       have hCr:=hC1'.out.gr hGr
       have hNr:=hN1'.out.below hbw.out hbl
       have hFn:FU mb 110 #[.pointer (some ⟨db,0,none⟩),.pointer (some ⟨lb,0,none⟩),.pointer (some ⟨fb,0,none⟩)] (im (bk l) f) (ww l.length (F-1)) ts wr:=fun x W M' hx hG hN' hI'=>
        (ih (F-1) M' x W hI' (by omega) (hgk'.out x hx) (hCr.gr hG) hN').mono fun e w' ⟨a1,a2,a3⟩=>⟨a1,a2,a3,qW _ _ _ _ _ hI'⟩
       have hX:=oP 110 _ pS mb (im (bk l) f) (ww l.length (F-1)) (gI M (k:Int) 1) B cp ts wr hSl hne hNr hM1 hFn
       rw [←eb] at hX
       have f3:=hCr.self
       have f1:=hCr.done
       obtain ⟨t1,t2,t3,t4,t5⟩:=hCr.lt
       have hGw:=aa (hG1'.out.trans hGr)
       replace hX:=aa hX
       clear hFn hSl hne hI hCr hNr e1 e2 e3 eb ih
       go_upto_region 13 with (go_at_call 94;refine hX.out.mono ?_;rintro e w5 ⟨rfl,hN5,hG5⟩)
       have d5:=(hG5.cell (i:=0) t3 (by omega)).trans f1
       have hup2:=lu hN5 (k:Int) 2
       have hNf:=aa (wu (M':=gI (bM (im (bk l) f) (gI M (k:Int) 1) ts).2 (k:Int) 2) hN5)
       have hGf:=aa (hGw.out.trans (hG5.trans (Bz (gI (bM (im (bk l) f) (gI M (k:Int) 1) ts).2 (k:Int) 2))))
       clear hN5 hG5 hX
       go_wp2
       go_ret
       exact ⟨rfl,hNf.out,hGf.out⟩
end
theorem Dj {n k:Nat} (h:k<(eK n).length):(eK n)[k]=(k:Int):=by simp [eK]
theorem sU (n:Nat):(eK n).length=n:=by simp [eK]
theorem uQ (l:List lI) (A:Option Addr) (c:Nat) (w:World) (h:Sl 4 oL w w.heap.size A l) (hg:∀ i,∀ t∈bk l i,t<l.length) (hbr:∀ s∈l,s.brs.length≤1000):
  Calls prog 52 #[.slice A l.length c] w fun e w'=>e=.returned (.bool (up l))∧Below w.heap.size w w':=by
 have hl:=h.len
 obtain ⟨wl,hwl,hsl,hbl,hcl,-⟩:=ak w #[.slice A l.length c] 24
 obtain ⟨wm,hwm⟩:∃ wm,wl.alloc (.map #[] 0)=wm:=⟨_,rfl⟩
 have hsm:wm.heap.size=wl.heap.size+1:=by rw [←hwm];simp
 have hbm:Below wl.heap.size wl wm:=by rw [←hwm];exact (Hf _ _).alloc (Hh _) _
 have hNm:i9 wm wl.heap.size []:=by rw [←hwm];exact heap_alloc_new wl _
 obtain ⟨wd,hwd,hsd,hbd,hcd,-⟩:=ak wm #[.map (some (w.heap.size+1))] 161
 obtain ⟨wf,hwf,hsf,hbf,hcf,-⟩:=ak wd #[.func (.func 110) #[] #[.pointer (some ⟨w.heap.size+1+1,0,none⟩),.pointer (some ⟨w.heap.size,0,none⟩),.pointer (some ⟨w.heap.size+1+1+1,0,none⟩)]] 150
 have e3:Below wd.heap.size wd wf:=hbf
 have e2:Below wm.heap.size wm wf:=hbd.trans (e3.mono (by omega))
 have e1:Below wl.heap.size wl wf:=hbm.trans (e2.mono (by omega))
 have e0:Below w.heap.size w wf:=hbl.trans (e1.mono (by omega))
 have hC:Fq wf w.heap.size (w.heap.size+1+1) (w.heap.size+1+1+1) (w.heap.size+1) A c l:=by
  refine ⟨?_,?_,?_,(h.below gj e0).more gj (by omega),by omega,by omega,by omega,by omega,by omega⟩
  ·have:=(bH e3 wm.heap.size 0 (by omega)).trans (hcd 0)
   rw [hsm,hsl] at this;exact this
  ·exact (bH e1 w.heap.size 0 (by omega)).trans (hcl 0)
  ·have:=hcf 0
   rw [hsd,hsm,hsl] at this;exact this
 have hN:i9 wf (w.heap.size+1) []:=by
  have:=hNm.below e2 (by omega)
  rw [hsl] at this;exact this
 have hM:ww l.length l.length []:=⟨fun j=>by simp [eP],rG _ _⟩
 have hDn:=BA l A c w.heap.size (w.heap.size+1+1) (w.heap.size+1+1+1) (w.heap.size+1) hg hbr (l.length+1) l.length
 have cl0:=hC.list
 have cf0:=hC.self
 obtain ⟨q1,q2,q3,q4,q5⟩:=hC.lt
 have ql:w.heap.size<wf.heap.size:=by omega
 have hv:=aa (show up l=(bM (im (bk l) (l.length+1)) [] (eK l.length)).1 from rfl)
 replace hC:=aa hC
 replace hN:=aa hN
 replace hM:=aa hM
 replace e0:=aa e0
 replace hsf:=aa hsf
 clear hcl hcd hcf hbl hbm hbd hbf e1 e2 e3 hNm
 have eg:=pS
 have hmm:=@run_makeMap prog
 go_enter func52,ntmps52
 go_upto_region 4 with fail
 go_wp2
 go_loopw [5,10] (fun _ i wr=>∃ (k:Nat) (Mk:NN),k≤l.length∧i=.int .i64 k∧Hid (bM (im (bk l) (l.length+1)) [] ((eK l.length).take k)=(false,Mk))∧Hid (i9 wr (w.heap.size+1) Mk)∧Hid (ww l.length l.length Mk)∧Hid (Gr (w.heap.size+1) wf wr)) (fun _ i _=>l.length-(intOf i).toNat)
 case atStart=>exact ⟨0,[],Hm _,rfl,aa rfl,hN,hM,aa (Gr.refl _ _)⟩
 case round=>
  obtain ⟨k,Mk,hk,rfl,hc,hNk,hMk,hG⟩:=hrel
  have hCr:=hC.out.gr hG.out
  have cf1:=hCr.self
  have hgo:=aa (fun W (hW:Gr (w.heap.size+1) wr W)=>e0.out.trans ((hG.out.trans hW).below (B:=w.heap.size) (by omega) (by omega)))
  by_cases hlt:k<l.length
  ·have hkz:(k:Int)<(l.length:Int):=by omega
   have hku:k<(eK l.length).length:=by rw [sU];exact hlt
   have hcall:=hDn Mk (k:Int) wr hMk.out (by omega) hkz hCr hNk.out
   have hst:=pQ hku hc.out
   rw [Dj hku] at hst
   have hMn:=aa (qW (bk l) (l.length+1) l.length Mk (k:Int) hMk.out)
   generalize im (bk l) (l.length+1) Mk (k:Int)=r at hcall hst hMn
   obtain ⟨r,M'⟩:=r
   simp only at hcall hMn
   replace hst:=aa hst
   clear hCr
   cases r with
   |true=>
    have hv2:=aa (pR hst.out)
    replace hcall:=aa hcall
    go_wp2_with (go_at_call 110;refine hcall.out.mono ?_;rintro e w' ⟨rfl,hN',hG'⟩)
    go_ret
    exact ⟨ad (by rw [hv.out,hv2.out]),hgo.out _ hG'⟩
   |false=>
    replace hcall:=aa hcall
    go_wp2_with (go_at_call 110;refine hcall.out.mono ?_;rintro e w' ⟨rfl,hN',hG'⟩)
    go_roundw
    case rel=>exact ⟨k+1,M',by omega,by go_num,hst,aa hN',hMn,aa (hG.out.trans hG')⟩
    case measure=>simp [intOf];omega
  ·have hke:k=(eK l.length).length:=by rw [sU];omega
   rw [hke,HZ] at hc
   clear hCr
   go_wp2
   go_ret
   exact ⟨ad (by rw [hv.out,hc.out]),hgo.out _ (Gr.refl _ _)⟩
end Go.Proofs.YtiebolhmdhdagaaGreatDoor

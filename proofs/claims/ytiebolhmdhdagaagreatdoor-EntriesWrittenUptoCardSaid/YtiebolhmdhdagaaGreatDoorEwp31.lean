import Derived.Test.YtiebolhmdhdagaaGreatDoorEwp30
set_option linter.all false
set_option maxHeartbeats 8000000
set_option maxRecDepth 100000
open Go.Proofs.Tryz
namespace Go.Proofs.YtiebolhmdhdagaaGreatDoor
open _root_.Nat renaming lt_of_lt_of_le→He, le_refl→Hh, zero_le→Hm, lt_succ_self→HA, zero_add→HS
open _root_.Go.RowKit.Below renaming refl→Hf
open _root_.Go.Calls renaming regrown_of→Hi
open _root_.List renaming getElem_mem→Ho, length_append→Hu, getElem_of_mem→Hw, length_take→HF, drop_zero→HX, length_drop→H1, length_pos_iff→H3
open _root_.Bool renaming false_eq_true→Hy
open Go.RowKit
section
attribute [local go_sem ↓] cU
attribute [local go_sem] run_panic_iface
def Fu (l:List UInt8) (e:Ending) (w':World):Prop:=
 match eU l with
 | .error (n,k)=>e=.returned (.tuple #[.slice none 0 0,dg n (l.take k)])
 | .ok r=>∃ A cap,e=.returned (.tuple #[.slice A r.length cap,vZ])∧Sl 6 zr w' w'.heap.size A r
def oQ (l:List UInt8) (e:Ending) (w':World):Prop:=
 match eU l with
 | .error (n,k)=>e=.returned (.tuple #[.slice none 0 0,dg n (l.take k)])
 | .ok r=>∃ A cap,e=.returned (.tuple #[.slice A r.length cap,vZ])∧Sl 6 zr w' w'.heap.size A r∧r.length≤cap∧cap≤maxLen
theorem oQ.e {l:List UInt8} {e:Ending} {w':World} (h:oQ l e w'):Fu l e w':=by
 unfold oQ at h
 unfold Fu
 split at h
 ·exact h
 ·obtain ⟨A,cap,h1,h2,-⟩:=h
  exact ⟨A,cap,h1,h2⟩
theorem ox.slc {w:World} {base:Nat} {v:Value} {l:List Tk} (h:ox w base v l):∃ A cap,v=.slice A l.length cap∧Sl 6 zr w w.heap.size A l∧l.length≤cap∧cap≤maxLen:=by
 obtain ⟨A,cap,hv,hS⟩:=h.sl
 refine ⟨A,cap,hv,hS,?_⟩
 rcases h.2 with ⟨e,hz⟩|⟨g,cap',cur,e,_,_,hc,hm,_⟩
 ·rw [hv] at e
  injection e with e1 e2 e3
  exact ⟨by omega,by rw [e3];exact Hm _⟩
 ·rw [hv] at e
  injection e with e1 e2 e3
  exact ⟨by omega,by rw [e3];exact hm⟩
def oR (acc:List Tk):Except (Int×Nat) (List Tk)→Except (Int×Nat) (List Tk)
 | .error x=>.error x
 | .ok r=>.ok (acc++r)
theorem BL (x:Except (Int×Nat) (List Tk)):oR [] x=x:=by cases x<;>rfl
theorem yU (acc:List Tk) (t:Tk) (x:Except (Int×Nat) (List Tk)):oR acc (oR [t] x)=oR (acc++ [t]) x:=by cases x<;>simp [oR]
theorem FW (w:World) (s:ByteArray):fX ((((w.alloc (.cells #[.string s] 9)).alloc (.cells #[.slice none 0 0] 86)).alloc (.cells #[.int .i64 0,.int .i64 0,.int .i64 0] 47)).alloc (.cells #[.int .i64 0] 3)) w.heap.size s 0 (.slice none 0 0)∧Below w.heap.size w ((((w.alloc (.cells #[.string s] 9)).alloc (.cells #[.slice none 0 0] 86)).alloc (.cells #[.int .i64 0,.int .i64 0,.int .i64 0] 47)).alloc (.cells #[.int .i64 0] 3)):=by
 obtain ⟨wa,hwa,hsa,hba,hca,hfa⟩:=ak w #[.string s] 9
 obtain ⟨wb,hwb,hsb,hbb,hcb,hfb⟩:=ak wa #[.slice none 0 0] 86
 obtain ⟨wc,hwc,hsc,hbc,hcc,hfc⟩:=ak wb #[.int .i64 0,.int .i64 0,.int .i64 0] 47
 obtain ⟨wd,hwd,hsd,hbd,hcd,hfd⟩:=ak wc #[.int .i64 0] 3
 rw [hwa,hwb,hwc,hwd]
 have e1:wa.heap.size=w.heap.size+1:=hsa
 have e2:wb.heap.size=w.heap.size+2:=by omega
 have e3:wc.heap.size=w.heap.size+3:=by omega
 have hbbc:=hbb.trans (hbc.mono (by omega))
 have hbbd:=hbbc.trans (hbd.mono (by omega))
 have hbcd:=hbc.trans (hbd.mono (by omega))
 have k1:=ah hbbd
 have k2:=ah hbcd
 have k3:=ah hbd
 rw [e1] at hcb hfb
 rw [e2] at hcc hfc
 rw [e3] at hcd hfd
 exact ⟨⟨by omega,(k1.1 _ 0 (by omega)).trans (hca 0),(k2.1 _ 0 (by omega)).trans (hcb 0),(k3.1 _ 0 (by omega)).trans (hcc 0),(k3.1 _ 1 (by omega)).trans (hcc 1),(k3.1 _ 2 (by omega)).trans (hcc 2),hcd 0,(k2.2 _ 0 (by omega)).trans (hfb 0),(k3.2 _ 0 (by omega)).trans (hfc 0),(k3.2 _ 1 (by omega)).trans (hfc 1),(k3.2 _ 2 (by omega)).trans (hfc 2),hfd 0⟩,hba.trans (hbbd.mono (by omega))⟩
theorem BM {l:List UInt8} {x:Nat×List UInt8×Nat×Nat} (h:eT l=.ok x):1≤x.2.1.length∧x.2.1.length≤l.length:=by
 have hwl:=mp l
 have hlen:(l.take (aT l)).length=aT l:=by rw [HF];omega
 have hmk:aD l≠ []→1≤(aD l).length∧(aD l).length≤l.length:=by
  intro hne
  refine ⟨H3.2 hne,?_⟩
  have:∀ ms:List (List UInt8),(aH ms l).length≤l.length:=by
   intro ms
   induction ms with
   |nil=>
    unfold aH
    split
    ·rw [HF];omega
    ·simp
   |cons m r ih=>
    unfold aH
    split
    ·rename_i hp
     exact (List.isPrefixOf_iff_prefix.1 hp).length_le
    ·exact ih
  exact this ax
 unfold eT at h
 simp only at h
 split at h
 ·split at h
  ·cases h
  ·rename_i hm
   injection h with h
   rw [←h]
   exact hmk hm
 ·rename_i hw
  have hw1:1≤aT l:=by rw [←hlen];exact H3.2 hw
  split at h
  ·split at h
   ·cases h
   ·injection h with h
    rw [←h]
    simp only [hlen]
    omega
  ·split at h
   ·cases h
   ·injection h with h
    rw [←h]
    simp only [hlen]
    omega
theorem kJ (fu k:Nat) (l:List UInt8):fH (fu+1) k l=if l.drop (cq false l)= [] then .ok [⟨0,[],0,0,k+cq false l⟩] else match eT (l.drop (cq false l)) with
   | .error e=>.error (e,k+cq false l)
   | .ok x=>oR [⟨x.1,x.2.1,x.2.2.1,x.2.2.2,k+cq false l⟩] (fH fu (k+cq false l+x.2.1.length) ((l.drop (cq false l)).drop x.2.1.length)):=by
 rw [fH]
 split
 ·rfl
 ·cases eT (l.drop (cq false l)) with
  |error e=>rfl
  |ok x=>
   simp only
   generalize fH fu (k+cq false l+x.2.1.length) ((l.drop (cq false l)).drop x.2.1.length)=y
   cases y<;>rfl
theorem BN {fu k:Nat} {l:List UInt8} (h:l.drop (cq false l)= []):fH (fu+1) k l=.ok [⟨0,[],0,0,k+cq false l⟩]:=by
 rw [kJ]
 exact if_pos h
theorem BO {fu k:Nat} {l:List UInt8} {n:Int} (h:l.drop (cq false l)≠ []) (he:eT (l.drop (cq false l))=.error n):fH (fu+1) k l=.error (n,k+cq false l):=by
 rw [kJ,if_neg h,he]
theorem Dw {fu k:Nat} {l:List UInt8} {x:Nat×List UInt8×Nat×Nat} (h:l.drop (cq false l)≠ []) (he:eT (l.drop (cq false l))=.ok x):fH (fu+1) k l=oR [⟨x.1,x.2.1,x.2.2.1,x.2.2.2,k+cq false l⟩] (fH fu (k+cq false l+x.2.1.length) ((l.drop (cq false l)).drop x.2.1.length)):=by
 rw [kJ,if_neg h,he]
theorem tC {w:Nat} {b:Bool} {l:List UInt8} {n:Int} (h:qq w b l=.error n):n=4∨n=5:=by
 unfold qq at h
 cases hp:dP l with
 |error e=>
  rw [hp] at h
  injection h with h
  rw [←h];exact iY hp
 |ok m=>
  rw [hp] at h
  unfold zv at h
  simp only at h
  split at h
  ·injection h with h;omega
  ·cases h
theorem BP {l:List UInt8} {n:Int} (h:eT l=.error n):n≠0:=by
 unfold eT at h
 simp only at h
 split at h
 ·split at h
  ·injection h with h;omega
  ·cases h
 ·split at h
  ·split at h
   ·rename_i e hn
    injection h with h
    subst h
    unfold jZ at hn
    simp only at hn
    split at hn
    ·split at hn
     ·split at hn
      ·injection hn with hn;omega
      ·have:=tC hn;omega
     ·injection hn with hn;omega
    ·have:=tC hn;omega
   ·cases h
  ·split at h
   ·injection h with h;omega
   ·cases h
theorem fX.setF {W:World} {b k:Nat} {s:ByteArray} {v:Value} (h:fX W b s k v):fX (((W.setCell ⟨b+2,0,none⟩ (.int .i64 0)).setCell ⟨b+2,1,none⟩ (.int .i64 0)).setCell ⟨b+2,2,none⟩ (.int .i64 0)) b s k v:=by
 obtain ⟨lt,c0,c1,e0,e1,e2,c3,f1,g0,g1,g2,f3⟩:=h
 refine ⟨by rw [an,an,an];exact lt,?_,?_,?_,?_,?_,?_,?_,?_,?_,?_,?_⟩<;>simp [go_sem,c0,c1,e0,e1,e2,c3,f1,g0,g1,g2,f3]
theorem n9 (s:ByteArray) (w:World) (hs:s.size<4611686018427387904) (hV:iA w):
  Calls prog 38 #[.string s] w fun e w'=>oQ s.data.toList e w'∧Below w.heap.size w w':=by
 have hmf:∀ (fn:Fn) (first cap:Array Value) (w:World),(Instr.makeFunc fn first cap).run prog w=.ok (.func fn first cap) w:=fun _ _ _ _=>rfl
 obtain ⟨hL,hB⟩:=FW w s
 have hsl:s.size≤9223372036854775807:=by omega
 by_cases hbig:65536<s.size
 ·have hbz:(65536:Int)<(s.size:Int):=by omega
  have hR:eU s.data.toList=.error (3,0):=by unfold eU;rw [if_pos (by rw [←Lib.size_eq];exact hbig)]
  replace hbig:=aa hbig
  replace hL:=aa hL
  replace hB:=aa hB
  go_enter_defers func38,ntmps38
  go_wp2
  replace hR:=aa hR
  refine leaves_cons (f:=87) (args:=#[.pointer (some ⟨w.heap.size,0,none⟩),.pointer (some ⟨w.heap.size+3,0,none⟩),.pointer (some ⟨w.heap.size+1,0,none⟩),.pointer (some ⟨w.heap.size+2,0,none⟩)]) (by simp) (by simp [go_sem]) ?_
  refine (n8 w.heap.size 0 s (.slice none 0 0) 3 [] _ hL.out (Hm _) hs (by first|decide|assumption)).mono ?_
  rintro e u' w'' ⟨rfl,rfl,w9,hb9,rfl⟩
  obtain ⟨lt9,c09,c19,e09,e19,e29,c39,f19,g09,g19,g29,f39⟩:=(hL.out).below hb9 (hL.out).lt
  have hfin:=aa ((hB.out).trans (hb9.mono (hB.out).size))
  obtain ⟨pl,hpl⟩:∃ pl,pl=(((be (s.data.toList.take 0)).1:Nat):Int):=⟨_,rfl⟩
  obtain ⟨pc,hpc⟩:∃ pc,pc=(((be (s.data.toList.take 0)).2:Nat):Int):=⟨_,rfl⟩
  rw [←hpl,←hpc]
  replace hpl:=aa hpl
  replace hpc:=aa hpc
  simp only [Leaves,settle]
  simp [Leaves,settle,results,results38,go_sem,c09,c19,e09,e19,e29]
  refine ⟨?_,dW (hfin.out.setCell (p:=⟨w.heap.size+1,0,none⟩) (by show w.heap.size≤w.heap.size+1;omega) _) (by omega) _ _ _⟩
  unfold oQ
  rw [hR.out,hpl.out,hpc.out]
  rfl
 ·have hbz:¬(65536:Int)<(s.size:Int):=by omega
  have hR0:eU s.data.toList=oR [] (fH (s.size+1) 0 (s.data.toList.drop 0)):=by
   unfold eU
   rw [if_neg (by rw [←Lib.size_eq];exact hbig),BL,←Lib.size_eq,HX]
  have hs6:s.size≤65536:=by omega
  replace hL:=aa hL
  replace hB:=aa hB
  replace hR0:=aa hR0
  clear hbig
  go_enter_defers func38,ntmps38
  go_wp2
  go_loopw [] (fun wr=>∃ (k:Nat) (acc:List Tk) (v:Value) (fuel:Nat),k≤s.size∧Hid (fX wr w.heap.size s k v)∧Hid (ox wr (w.heap.size+4) v acc)∧acc.length≤k∧s.size<fuel+k∧Hid (eU s.data.toList=oR acc (fH fuel k (s.data.toList.drop k)))∧Hid (Below w.heap.size w wr)) (fun wr=>s.size-FD w.heap.size wr)
  case atStart=>exact ⟨0,[],_,s.size+1,Hm _,hL,aa (ox.nil_ _ _),Hm _,by omega,hR0,hB⟩
  case round=>
   clear hL hB hR0
   obtain ⟨k,acc,v,fuel,hk,hL,hT,hak,hfu,hR,hB⟩:=hrel
   obtain ⟨fu,rfl⟩:∃ fu,fuel=fu+1:=⟨fuel-1,by omega⟩
   have hVr:=aa (hV.below hB.out (Hh _))
   have hkw:=aa hL.out.kOf
   obtain ⟨lt,c0,c1,e0,e1,e2,c3,f1,g0,g1,g2,f3⟩:=hL.out
   obtain ⟨gK,hgK⟩:∃ gK,gK=cq false (s.data.toList.drop k):=⟨_,rfl⟩
   have hgl:=jY false (s.data.toList.drop k)
   rw [←hgK,H1,←Lib.size_eq] at hgl
   have hBt:=aa (fun W=>(rX (s.extract k s.size) W (by rw [ByteArray.size_extract];unfold maxLen;omega)).mono fun e w' h=>(⟨h.1,by rw [h.2];exact Hf _ _⟩:_∧Below W.heap.size W w'))
   have hga:((di (s.extract k s.size) 0:Nat):Int)=(gK:Int):=by
    unfold di
    rw [jg,HX,hgK,HS]
   rw [hga] at hBt
   have hkz:(k:Int)≤(s.size:Int):=by omega
   have hk0:(0:Int)≤(k:Int):=by omega
   obtain ⟨K,hK⟩:∃ K,K=k+gK:=⟨_,rfl⟩
   have hsum:IntKind.i64.wrap ((k:Int)+(gK:Int))=(K:Int):=by rw [IntWalk.i64_in _ (by omega),hK];omega
   have hKs:K≤s.size:=by omega
   have hkK:k≤K:=by omega
   replace hgK:=aa hgK
   replace hK:=aa hK
   have lt0:w.heap.size<wr.heap.size:=by omega
   have lt1:w.heap.size+1<wr.heap.size:=by omega
   have lt2:w.heap.size+2<wr.heap.size:=by omega
   have hg:=vB wr
   go_wp2_with fail
   refine et 6 (by kernel_rfl) (by kernel_rfl) ?_
   simp only [List.take_succ_cons,List.take_zero,List.drop_succ_cons,HX]
   repeat (any_goals (first|go_big_quiet_step ((go_at_call 88;with_reducible exact Hi (hBt.out _)))|quiet_step ((go_at_call 88;with_reducible exact Hi (hBt.out _)))))
   refine wpQuiet_nil ?_
   intro w1 hw1
   have hL1:=hL.out.below hw1 lt
   have hT1:=hT.out.below hw1 (Hh _)
   have hV1:=hVr.out.below hw1 (Hh _)
   have hB1:=hB.out.trans (hw1.mono hB.out.size)
   obtain ⟨lt',y0,y1,ye0,ye1,ye2,y3,yf1,yg0,yg1,yg2,yf3⟩:=hL1
   have hL2:=aa (show fX (w1.setCell ⟨w.heap.size+1+1+1,0,none⟩ (.int .i64 (K:Int))) w.heap.size s K v from (hL.out.below hw1 lt).setK K)
   have hT2:=aa (show ox (w1.setCell ⟨w.heap.size+1+1+1,0,none⟩ (.int .i64 (K:Int))) (w.heap.size+4) v acc from hT1.set (by omega))
   have hB2:=aa (show Below w.heap.size w (w1.setCell ⟨w.heap.size+1+1+1,0,none⟩ (.int .i64 (K:Int))) from hB1.setCell (p:=⟨w.heap.size+1+1+1,0,none⟩) (by show w.heap.size≤w.heap.size+1+1+1;omega) _)
   clear hL hT hB hVr lt c0 c1 e0 e1 e2 c3 f1 g0 g1 g2 f3 lt0 lt1 lt2 hg hT1 hB1 hsum hga hBt hw1
   go_upto_region 6 with (fail)
   clear lt' y0 y1 ye0 ye1 ye2 y3 yf1 yg0 yg1 yg2 yf3
   have hV2:=aa (hV.below hB2.out (Hh _))
   generalize w1.setCell ⟨w.heap.size+1+1+1,0,none⟩ (.int .i64 (K:Int))=w2 at hL2 hT2 hB2 hV2 ⊢
   clear hV1
   obtain ⟨A,cap,rfl⟩:=hT2.out.form
   obtain ⟨lt,c0,c1,e0,e1,e2,c3,f1,g0,g1,g2,f3⟩:=hL2.out
   have hdk:(s.data.toList.drop k).drop gK=s.data.toList.drop K:=by rw [List.drop_drop,hK.out]
   have hbig4:w.heap.size+4≤w2.heap.size:=by omega
   by_cases hKe:K=s.size
   ·subst hKe
    have hnil:(s.data.toList.drop k).drop (cq false (s.data.toList.drop k))= []:=by
     rw [←hgK.out,hdk];exact List.drop_eq_nil_of_le (by rw [←Lib.size_eq];omega)
    have hR1:=aa (show eU s.data.toList=.ok (acc++ [⟨0,[],0,0,s.size⟩]) from by rw [hR.out,BN hnil,←hgK.out,←hK.out];rfl)
    obtain ⟨v',w3,hrun,hT3,hb3,-⟩:=sG ⟨0,[],0,0,s.size⟩ hT2.out hbig4 (by unfold dI;omega)
    rw [show (wi ⟨0,[],0,0,s.size⟩).toArray=#[.int .u8 0,.string ⟨#[]⟩,.int .i64 0,.int .u64 0,.int .u64 0,.int .i64 (s.size:Int)] from by simp [wi,E6]] at hrun
    have hL3:=hL2.out.below hb3 (by omega)
    obtain ⟨lt',y0,y1,ye0,ye1,ye2,y3,yf1,yg0,yg1,yg2,yf3⟩:=hL3
    obtain ⟨A',cap',hv'⟩:=hT3.form
    have hv2:v'=.slice A' (acc.length+1) cap':=by rw [hv',Hu];rfl
    clear hv'
    subst hv2
    have hLF:=aa (show fX ((((w3.setCell ⟨w.heap.size+1,0,none⟩ (.slice A' (acc.length+1) cap')).setCell ⟨w.heap.size+1+1,0,none⟩ (.int .i64 0)).setCell ⟨w.heap.size+1+1,1,none⟩ (.int .i64 0)).setCell ⟨w.heap.size+1+1,2,none⟩ (.int .i64 0)) w.heap.size s s.size (.slice A' (acc.length+1) cap') from ((hL2.out.below hb3 (by omega)).setV _).setF)
    have hTF:=aa (show ox ((((w3.setCell ⟨w.heap.size+1,0,none⟩ (.slice A' (acc.length+1) cap')).setCell ⟨w.heap.size+1+1,0,none⟩ (.int .i64 0)).setCell ⟨w.heap.size+1+1,1,none⟩ (.int .i64 0)).setCell ⟨w.heap.size+1+1,2,none⟩ (.int .i64 0)) (w.heap.size+4) (.slice A' (acc.length+1) cap') (acc++ [⟨0,[],0,0,s.size⟩]) from (((hT3.set (k:=w.heap.size+1) (by omega)).set (k:=w.heap.size+1+1) (by omega)).set (k:=w.heap.size+1+1) (by omega)).set (k:=w.heap.size+1+1) (by omega))
    have hBF:=aa (show Below w.heap.size w ((((w3.setCell ⟨w.heap.size+1,0,none⟩ (.slice A' (acc.length+1) cap')).setCell ⟨w.heap.size+1+1,0,none⟩ (.int .i64 0)).setCell ⟨w.heap.size+1+1,1,none⟩ (.int .i64 0)).setCell ⟨w.heap.size+1+1,2,none⟩ (.int .i64 0)) from dW ((hB2.out.trans (hb3.mono (by omega))).setCell (p:=⟨w.heap.size+1,0,none⟩) (by show w.heap.size≤w.heap.size+1;omega) _) (show w.heap.size≤w.heap.size+1+1 by omega) _ _ _)
    clear hT3 hb3 hdk hgK hK hnil hR hL2 hT2 hB2 hV2
    go_wp2
    refine leaves_cons (f:=87) (args:=#[.pointer (some ⟨w.heap.size,0,none⟩),.pointer (some ⟨w.heap.size+3,0,none⟩),.pointer (some ⟨w.heap.size+1,0,none⟩),.pointer (some ⟨w.heap.size+2,0,none⟩)]) (by simp) (by simp [go_sem]) ?_
    refine (yT _ _ _ _ _).mono ?_
    rintro e u' w'' ⟨rfl,rfl,rfl⟩
    generalize ((((w3.setCell ⟨w.heap.size+1,0,none⟩ (.slice A' (acc.length+1) cap')).setCell ⟨w.heap.size+1+1,0,none⟩ (.int .i64 0)).setCell ⟨w.heap.size+1+1,1,none⟩ (.int .i64 0)).setCell ⟨w.heap.size+1+1,2,none⟩ (.int .i64 0))=w4 at hLF hTF hBF ⊢
    obtain ⟨-,x0,x1,xe0,xe1,xe2,-,-,-,-,-,-⟩:=hLF.out
    simp [Leaves,settle,results,results38,go_sem,x1,xe0,xe1,xe2]
    refine ⟨?_,hBF.out⟩
    obtain ⟨A2,cap2,hv3,hS,hcp⟩:=hTF.out.slc
    unfold oQ
    rw [hR1.out]
    refine ⟨A2,cap2,?_,hS,hcp⟩
    rw [←hv3]
    rfl
   ·have hKlt:K<s.size:=by omega
    have hnz:¬(K:Int)=(s.size:Int):=by omega
    have hKz:(K:Int)≤(s.size:Int):=by omega
    have hK0:(0:Int)≤(K:Int):=by omega
    have hne:(s.data.toList.drop k).drop (cq false (s.data.toList.drop k))≠ []:=by
     rw [←hgK.out,hdk]
     intro h
     have:=congrArg List.length h
     rw [H1,←Lib.size_eq] at this
     simp at this;omega
    have hO:=C9 (s.extract K s.size) w2 (by rw [ByteArray.size_extract];omega) (by rw [ByteArray.size_extract];omega) hV2.out
    rw [jg] at hO
    have hdk2:(s.data.toList.drop k).drop (cq false (s.data.toList.drop k))=s.data.toList.drop K:=by rw [←hgK.out];exact hdk
    obtain ⟨R,hRe⟩:∃ R,R=eT (s.data.toList.drop K):=⟨_,rfl⟩
    rw [←hRe] at hO
    rw [←hdk2] at hRe
    cases R with
    |error n=>
     have hn0:n≠0:=BP hRe.symm
     replace hR:=aa (show eU s.data.toList=.error (n,K) from by rw [hR.out,BO hne hRe.symm,←hgK.out,←hK.out];rfl)
     replace hO:=aa (show Calls prog _ _ w2 fun e w'=>e=xD n∧Below w2.heap.size w2 w' from hO)
     replace hRe:=aa hRe
     replace hn0:=aa hn0
     clear hne hdk hdk2 hgK hK hV2
     go_wp2_with (go_at_call 89;refine hO.out.mono ?_;rintro e w5 ⟨rfl,hb5⟩)
     replace hn0:=hn0.out
     refine leaves_cons (f:=87) (args:=#[.pointer (some ⟨w.heap.size,0,none⟩),.pointer (some ⟨w.heap.size+3,0,none⟩),.pointer (some ⟨w.heap.size+1,0,none⟩),.pointer (some ⟨w.heap.size+2,0,none⟩)]) (by simp) (by simp [go_sem]) ?_
     refine (n8 w.heap.size K s (.slice A acc.length cap) n [] _ (hL2.out.below hb5 lt) hKs hs (by first|decide|assumption)).mono ?_
     rintro e u' w'' ⟨rfl,rfl,w9,hb9,rfl⟩
     obtain ⟨lt9,c09,c19,e09,e19,e29,c39,f19,g09,g19,g29,f39⟩:=((hL2.out.below hb5 lt)).below hb9 ((hL2.out.below hb5 lt)).lt
     have hfin:=aa (((hB2.out.trans (hb5.mono hB2.out.size))).trans (hb9.mono ((hB2.out.trans (hb5.mono hB2.out.size))).size))
     obtain ⟨pl,hpl⟩:∃ pl,pl=(((be (s.data.toList.take K)).1:Nat):Int):=⟨_,rfl⟩
     obtain ⟨pc,hpc⟩:∃ pc,pc=(((be (s.data.toList.take K)).2:Nat):Int):=⟨_,rfl⟩
     rw [←hpl,←hpc]
     replace hpl:=aa hpl
     replace hpc:=aa hpc
     simp only [Leaves,settle]
     simp [Leaves,settle,results,results38,go_sem,c09,c19,e09,e19,e29]
     refine ⟨?_,dW (hfin.out.setCell (p:=⟨w.heap.size+1,0,none⟩) (by show w.heap.size≤w.heap.size+1;omega) _) (by omega) _ _ _⟩
     unfold oQ
     rw [hR.out,hpl.out,hpc.out]
     rfl
    |ok x=>
     obtain ⟨kd,sl,wd,n⟩:=x
     have hpos:=BM hRe.symm
     rw [hdk2,H1,←Lib.size_eq] at hpos
     simp only at hpos
     obtain ⟨sB,hsB⟩:∃ sB:ByteArray,sB=⟨sl.toArray⟩:=⟨_,rfl⟩
     have hsz:sB.size=sl.length:=by rw [hsB,Lib.size_eq]
     replace hR:=aa (show eU s.data.toList=oR (acc++ [⟨kd,sl,wd,n,K⟩]) (fH fu (K+sl.length) (s.data.toList.drop (K+sl.length))) from by rw [hR.out,Dw hne hRe.symm,yU,hdk2,←hgK.out,←hK.out,List.drop_drop])
     have hO':=aa (show Calls prog 89 #[.string (s.extract K s.size)] w2 fun e w'=>e=.returned (.agg #[.int .u8 (kd:Int),.string sB,.int .i64 (wd:Int),.int .u64 ((n / 18446744073709551616:Nat):Int),.int .u64 ((n % 18446744073709551616:Nat):Int),.int .i64 0])∧Below w2.heap.size w2 w' from by rw [hsB];exact hO)
     have htv:(wi ⟨kd,sl,wd,n,K⟩).toArray=#[.int .u8 (kd:Int),.string sB,.int .i64 (wd:Int),.int .u64 ((n / 18446744073709551616:Nat):Int),.int .u64 ((n % 18446744073709551616:Nat):Int),.int .i64 (K:Int)]:=by rw [hsB];rfl
     clear hne hdk hdk2 hgK hK hV2 hO hRe hsB
     generalize ((n / 18446744073709551616:Nat):Int)=nh at hO' htv
     generalize ((n % 18446744073709551616:Nat):Int)=nl at hO' htv
     generalize hkd:(kd:Int)=kz at hO' htv
     generalize hwd:(wd:Int)=wz at hO' htv
     replace htv:=aa htv
     replace hkd:=aa hkd
     replace hwd:=aa hwd
     replace hsz:=aa hsz
     go_upto_region 9 with (go_at_call 89;refine hO'.out.mono ?_;rintro e w5 ⟨rfl,hb5⟩)
     have hL5:=hL2.out.below hb5 lt
     have hT5:=hT2.out.below hb5 (Hh _)
     have hB5:=hB2.out.trans (hb5.mono hB2.out.size)
     have hz5:=hb5.size
     obtain ⟨w6,hw6,hs6',hb6,hc6,hf6⟩:=ak w5 #[.int .u8 kz,.string sB,.int .i64 wz,.int .u64 nh,.int .u64 nl,.int .i64 (K:Int)] 141
     have hL6:=hL5.below hb6 hL5.lt
     have hT6:=hT5.below hb6 (Hh _)
     have hB6:=hB5.trans (hb6.mono hB5.size)
     obtain ⟨v',w7,hrun,hT7,hb7,hkeep⟩:=sG ⟨kd,sl,wd,n,K⟩ hT6 (by omega) (by unfold dI;omega)
     rw [htv.out] at hrun
     have hown:some w5.heap.size≠(Value.slice A acc.length cap).ownBlock:=fun h=>by
      have:=(World.ownsRow.lt hT5 _ h.symm).2
      omega
     have h57:w7.heap[w5.heap.size]? =w6.heap[w5.heap.size]? :=hkeep _ (by omega) hown
     have t1:w7.cell? ⟨w5.heap.size,1,none⟩=some (.string sB):=(World.cell?_of_block (a:=⟨w5.heap.size,1,none⟩) h57).trans (hc6 1)
     have b0:=hc6 0
     have b1:=hc6 1
     have b2:=hc6 2
     have b3:=hc6 3
     have b4:=hc6 4
     have b5:=hc6 5
     simp at b0 b1 b2 b3 b4 b5
     have hL7:=hL6.below hb7 (by omega)
     obtain ⟨A',cap',hv'⟩:=hT7.form
     have hv2:v'=.slice A' (acc.length+1) cap':=by rw [hv',Hu];rfl
     clear hv'
     subst hv2
     have hzz:(((K+sl.length:Nat)):Int)=(K:Int)+(sB.size:Int):=by rw [hsz.out];omega
     have hLF:=aa (show fX ((w7.setCell ⟨w.heap.size+1,0,none⟩ (.slice A' (acc.length+1) cap')).setCell ⟨w.heap.size+1+1+1,0,none⟩ (.int .i64 ((K:Int)+(sB.size:Int)))) w.heap.size s (K+sl.length) (.slice A' (acc.length+1) cap') from by rw [←hzz];exact (hL7.setV _).setK _)
     have hTF:=aa (show ox ((w7.setCell ⟨w.heap.size+1,0,none⟩ (.slice A' (acc.length+1) cap')).setCell ⟨w.heap.size+1+1+1,0,none⟩ (.int .i64 ((K:Int)+(sB.size:Int)))) (w.heap.size+4) (.slice A' (acc.length+1) cap') (acc++ [⟨kd,sl,wd,n,K⟩]) from (hT7.set (k:=w.heap.size+1) (by omega)).set (k:=w.heap.size+1+1+1) (by omega))
     have hBF:=aa (show Below w.heap.size w ((w7.setCell ⟨w.heap.size+1,0,none⟩ (.slice A' (acc.length+1) cap')).setCell ⟨w.heap.size+1+1+1,0,none⟩ (.int .i64 ((K:Int)+(sB.size:Int)))) from ((hB6.trans (hb7.mono (by omega))).setCell (p:=⟨w.heap.size+1,0,none⟩) (by show w.heap.size≤w.heap.size+1;omega) _).setCell (p:=⟨w.heap.size+1+1+1,0,none⟩) (by show w.heap.size≤w.heap.size+1+1+1;omega) _)
     obtain ⟨lt6,q0,q1,qe0,qe1,qe2,q3,qf1,qg0,qg1,qg2,qf3⟩:=hL6
     obtain ⟨lt7,r0,r1,re0,re1,re2,r3,rf1,rg0,rg1,rg2,rf3⟩:=hL7
     have hsbz:(K:Int)+(sB.size:Int)≤65536:=by rw [hsz.out];omega
     have h5a:w.heap.size+1<w5.heap.size:=by omega
     have h5b:w.heap.size+3<w5.heap.size:=by omega
     have h56:w5.heap.size<w6.heap.size:=by omega
     have h57':w5.heap.size<w7.heap.size:=He h56 hb7.size
     have hms:=aa (show s.size-FD w.heap.size ((w7.setCell ⟨w.heap.size+1,0,none⟩ (.slice A' (acc.length+1) cap')).setCell ⟨w.heap.size+1+1+1,0,none⟩ (.int .i64 ((K:Int)+(sB.size:Int))))<s.size-FD w.heap.size wr from by rw [hLF.out.kOf,hkw.out];omega)
     obtain ⟨-,p0,p1,-,-,-,p3,-,-,-,-,-⟩:=hL5
     replace hs6':=aa hs6'
     clear hzz hown hkeep h57 hT5 hB5 hT6 hB6 hb6 hb7 hT7 hb5 hc6 hf6
     go_wp2
     go_roundw
     case rel=>exact ⟨K+sl.length,acc++ [⟨kd,sl,wd,n,K⟩],_,fu,by omega,hLF,hTF,by rw [Hu];simp;omega,by omega,hR,hBF⟩
     case measure=>exact hms.out
end
section
attribute [local go_sem] run_panic_iface
theorem lE {L:List UInt8} {r:List Tk} (h:eU L=.ok r):eV r:=by
 unfold eU at h
 split at h
 ·cases h
 ·rename_i hl
  obtain ⟨h1,h2,-,-,-⟩:=mC 0 L _ 0 L r (HA _) HX (by omega) h
  have hp:=H3.2 h1
  refine ⟨⟨r[r.length-1],Ho _,(h2 (r.length-1) (by omega)).1 (by omega)⟩,fun t ht=> ?_⟩
  obtain ⟨j,hj,rfl⟩:=Hw ht
  have:=(h2 j hj).2.2.length_le
  rw [H1] at this
  omega
theorem Dx (v:Value) (W:World):(Instr.typeAssert (.iface 90 v) 20 90 true).run prog W=.ok (.tuple #[v,.bool true]) W:=by kernel_rfl
theorem Dy (W:World):(Instr.typeAssert .nilIface 20 90 true).run prog W=.ok (.tuple #[.agg #[.int .i64 0,.int .i64 0],.bool false]) W:=by kernel_rfl
structure tD (W:World) (b:Nat) (s:ByteArray):Prop where
 lt:b+3<W.heap.size
 c0:W.cell? ⟨b+1,0,none⟩=some (.string s)
 z0:W.cell? ⟨b+2,0,none⟩=some (.slice none 0 0)
 e0:W.cell? ⟨b+3,0,none⟩=some (.int .i64 0)
 e1:W.cell? ⟨b+3,1,none⟩=some (.int .i64 0)
 e2:W.cell? ⟨b+3,2,none⟩=some (.int .i64 0)
 f0:W.frozen? ⟨b+2,0,none⟩=false
 g0:W.frozen? ⟨b+3,0,none⟩=false
 g1:W.frozen? ⟨b+3,1,none⟩=false
 g2:W.frozen? ⟨b+3,2,none⟩=false
theorem tD.below {W W':World} {b B:Nat} {s:ByteArray} (h:tD W b s) (hb:Below B W W') (hB:b+3<B):tD W' b s:=by
 have kk:=ah hb
 exact ⟨He h.lt (by have:=hb.size;exact this),(kk.1 (b+1) 0 (by omega)).trans h.c0,(kk.1 (b+2) 0 (by omega)).trans h.z0,(kk.1 (b+3) 0 (by omega)).trans h.e0,(kk.1 (b+3) 1 (by omega)).trans h.e1,(kk.1 (b+3) 2 (by omega)).trans h.e2,(kk.2 (b+2) 0 (by omega)).trans h.f0,(kk.2 (b+3) 0 (by omega)).trans h.g0,(kk.2 (b+3) 1 (by omega)).trans h.g1,(kk.2 (b+3) 2 (by omega)).trans h.g2⟩
theorem ES (w:World) (C:Array Value) (s:ByteArray):∃ wa wb wd,w.alloc (.cells C 33)=wa∧wa.alloc (.cells #[.string s] 9)=wb∧wb.alloc (.cells #[.slice none 0 0] 34)=wd∧wa.heap.size=w.heap.size+1∧wb.heap.size=w.heap.size+2∧wd.heap.size=w.heap.size+3∧
  ∃ wc,wd.alloc (.cells #[.int .i64 0,.int .i64 0,.int .i64 0] 47)=wc∧tD wc w.heap.size s∧Below w.heap.size w wc∧(∀ i,wc.cell? ⟨w.heap.size,i,none⟩=C[i]?)∧wc.heap.size=w.heap.size+4:=by
 obtain ⟨wa,hwa,hsa,hba,hca,hfa⟩:=ak w C 33
 obtain ⟨wb,hwb,hsb,hbb,hcb,hfb⟩:=ak wa #[.string s] 9
 obtain ⟨wd,hwd,hsd,hbd,hcd,hfd⟩:=ak wb #[.slice none 0 0] 34
 obtain ⟨wc,hwc,hsc,hbc,hcc,hfc⟩:=ak wd #[.int .i64 0,.int .i64 0,.int .i64 0] 47
 have e1:wb.heap.size=w.heap.size+2:=by omega
 have e2:wd.heap.size=w.heap.size+3:=by omega
 have k1:=ah (hbb.trans ((hbd.trans (hbc.mono (by omega))).mono (by omega)))
 have k2:=ah (hbd.trans (hbc.mono (by omega)))
 have k3:=ah hbc
 rw [hsa] at hcb hfb k1
 rw [e1] at hcd hfd k2
 rw [e2] at hcc hfc k3
 exact ⟨wa,wb,wd,hwa,hwb,hwd,hsa,e1,e2,wc,hwc,⟨by omega,(k2.1 _ 0 (by omega)).trans (hcb 0),(k3.1 _ 0 (by omega)).trans (hcd 0),hcc 0,hcc 1,hcc 2,(k3.2 _ 0 (by omega)).trans (hfd 0),hfc 0,hfc 1,hfc 2⟩,hba.trans ((hbb.trans ((hbd.trans (hbc.mono (by omega))).mono (by omega))).mono (by omega)),fun i=>(k1.1 _ i (by omega)).trans (hca i),by omega⟩
theorem ia (b k:Nat) (s:ByteArray) (n:Int) (older:List PanicEntry) (w:World) (h:tD w b s) (hk:k≤s.size) (hs:s.size<4611686018427387904) (hn:n≠0):
  CallsD prog 39 #[.pointer (some ⟨b+1,0,none⟩),.pointer (some ⟨b+2,0,none⟩),.pointer (some ⟨b+3,0,none⟩)] (.panicking ({ v:=.iface 90 (.agg #[.int .i64 n,.int .i64 (k:Int)]),recovered:=false}::older)) w fun e u' w'=>
   e=.returned (.tuple #[])∧u'=.panicking ({ v:=.iface 90 (.agg #[.int .i64 n,.int .i64 (k:Int)]),recovered:=true}::older)∧∃ w3,Below w.heap.size w w3∧w'=((((w3.setCell ⟨b+2,0,none⟩ (.slice none 0 0)).setCell ⟨b+3,0,none⟩ (.int .i64 n)).setCell ⟨b+3,1,none⟩ (.int .i64 (((be (s.data.toList.take k)).1:Nat):Int))).setCell ⟨b+3,2,none⟩ (.int .i64 (((be (s.data.toList.take k)).2:Nat):Int))):=by
 obtain ⟨wx,hwx,hsx,hbx,hcx,hfx⟩:=ak w #[.int .i64 n,.int .i64 (k:Int)] 90
 have hF:=aa (pB s k n wx hk hs hn)
 unfold dg at hF
 generalize (((be (s.data.toList.take k)).1:Nat):Int)=pl at hF ⊢
 generalize (((be (s.data.toList.take k)).2:Nat):Int)=pc at hF ⊢
 have x0:=hcx 0
 have x1:=hcx 1
 simp at x0 x1
 have hb:=aa (h.below hbx h.lt)
 have hbx':=aa hbx
 have hltx:w.heap.size<wx.heap.size:=by omega
 have hlb:=h.lt
 obtain ⟨lt,c0,z0,e0,e1,e2,f0,g0,g1,g2⟩:=hb.out
 clear h hcx hfx hbx
 replace hsx:=aa hsx
 refine callsD_of_wpS func39 rfl fun c₀ cs hu=> ?_
 apply wpS_seq
 apply wpS_region
 refine eC fun K hK=> ?_
 simp [wpOpsS,go_sem,Dx,recoverD,hu,ntmps39]
 refine hK _ _ _ _ ?_
 clear hK K
 show Code.wpS _ _ _ _ _ _
 apply wpS_seq
 apply wpS_region
 refine eC fun K hK=> ?_
 simp [wpOpsS,go_sem]
 refine hK _ _ _ _ ?_
 clear hK K
 show Code.wpS _ _ _ _ _ _
 refine wpS_cond (t:=true) (by simp [Act.eval,Array.replicate]) ?_
 simp only [if_true]
 refine wpS_of_wp ?_
 rw [hwx]
 go_wp2_with (go_at_call 37;refine hF.out.mono ?_;rintro e w3 ⟨rfl,hb3⟩;have kb:=hb.out.below hb3 lt;obtain ⟨y,yc0,yz0,ye0,ye1,ye2,yf0,yg0,yg1,yg2⟩:=kb)
 exact ⟨rfl,_,rfl,.tuple #[],by simp [results,results39],rfl,rfl,w3,hbx'.out.trans (hb3.mono hbx'.out.size),rfl⟩
theorem ve (p q r:Addr) (w:World):
  CallsD prog 39 #[.pointer (some p),.pointer (some q),.pointer (some r)] .returning w fun e u' w'=>e=.returned (.tuple #[])∧u'=.returning∧Below w.heap.size w w':=by
 obtain ⟨wx,hwx,hsx,hbx,hcx,hfx⟩:=ak w #[.int .i64 0,.int .i64 0] 90
 refine callsD_of_wpS func39 rfl fun c₀ cs hu=> ?_
 apply wpS_seq
 apply wpS_region
 refine eC fun K hK=> ?_
 simp [wpOpsS,go_sem,Dy,recoverD,hu,ntmps39]
 refine hK _ _ _ _ ?_
 clear hK K
 show Code.wpS _ _ _ _ _ _
 apply wpS_seq
 apply wpS_region
 refine eC fun K hK=> ?_
 simp [wpOpsS,go_sem]
 refine hK _ _ _ _ ?_
 clear hK K
 show Code.wpS _ _ _ _ _ _
 refine wpS_cond (t:=false) (by simp [Act.eval,Array.replicate]) ?_
 simp only [Hy,if_false]
 refine wpS_of_wp ?_
 rw [hwx]
 go_wp2
 exact ⟨rfl,.returning,by cases c₀;simp_all,.tuple #[],by simp [results,results39],rfl,rfl,hbx⟩
theorem tD.sameC {w:World} {a:Addr} {v:Value} (h:w.cell? a=some v) (p:Addr):(w.setCell a v).cell? p=w.cell? p:=by
 by_cases hp:a=p
 ·subst hp
  rw [World.cell?_setCell_same _ _ _ h,h]
 ·exact World.cell?_setCell_other _ _ _ _ hp
theorem tD.same {W:World} {b:Nat} {s:ByteArray} (h:tD W b s) (p:Addr):(((W.setCell ⟨b+3,0,none⟩ (.int .i64 0)).setCell ⟨b+3,1,none⟩ (.int .i64 0)).setCell ⟨b+3,2,none⟩ (.int .i64 0)).cell? p=W.cell? p:=by
 have h1:(W.setCell ⟨b+3,0,none⟩ (.int .i64 0)).cell? ⟨b+3,1,none⟩=some (.int .i64 0):=(tD.sameC h.e0 _).trans h.e1
 have h2:((W.setCell ⟨b+3,0,none⟩ (.int .i64 0)).setCell ⟨b+3,1,none⟩ (.int .i64 0)).cell? ⟨b+3,2,none⟩=some (.int .i64 0):=(tD.sameC h1 _).trans ((tD.sameC h.e0 _).trans h.e2)
 rw [tD.sameC h2,tD.sameC h1,tD.sameC h.e0]
theorem tD.setF {W:World} {b:Nat} {s:ByteArray} (h:tD W b s):tD (((W.setCell ⟨b+3,0,none⟩ (.int .i64 0)).setCell ⟨b+3,1,none⟩ (.int .i64 0)).setCell ⟨b+3,2,none⟩ (.int .i64 0)) b s:=by
 obtain ⟨lt,c0,z0,e0,e1,e2,f0,g0,g1,g2⟩:=h
 refine ⟨by rw [an,an,an];exact lt,?_,?_,?_,?_,?_,?_,?_,?_,?_⟩<;>simp [go_sem,c0,z0,e0,e1,e2,f0,g0,g1,g2]
end
end Go.Proofs.YtiebolhmdhdagaaGreatDoor

import Derived.Test.YtijcdfdbkffiaaaGreatDoorCbp23
import Derived.RegionDies
set_option linter.all false
set_option maxHeartbeats 8000000
set_option maxRecDepth 100000
open Go.Proofs.Tryz
namespace Go.Proofs.YtijcdfdbkffiaaaGreatDoor
open _root_.Nat renaming lt_of_lt_of_le→Hr, le_refl→Ht, le_trans→Hw, zero_le→Hz, le_of_lt→HL, lt_succ_self→HV, lt_trans→HW, zero_add→H3
open _root_.Go.RowKit.Below renaming refl→Hs
open _root_.Go.Calls renaming regrown_of→Hv
open _root_.List renaming getElem_mem→HE, length_append→HM, length_take→HO, length_drop→HR, getElem_of_mem→H0, replicate→H8, length_pos_iff→Ij
open _root_.Bool renaming false_eq_true→H2
open Go.RowKit
section
attribute [local go_sem ↓] cH
attribute [local go_sem] run_panic_iface
def Fp (l:List UInt8) (e:Ending) (w':World):Prop:=
 match iq l with
 | .error (n,k)=>e=.returned (.tuple #[.slice none 0 0,ma n (l.take k)])
 | .ok r=>∃ A cap,e=.returned (.tuple #[.slice A r.length cap,uS])∧Sl 6 Cd w' w'.heap.size A r
def rV (l:List UInt8) (e:Ending) (w':World):Prop:=
 match iq l with
 | .error (n,k)=>e=.returned (.tuple #[.slice none 0 0,ma n (l.take k)])
 | .ok r=>∃ A cap,e=.returned (.tuple #[.slice A r.length cap,uS])∧Sl 6 Cd w' w'.heap.size A r∧r.length≤cap∧cap≤maxLen
theorem rV.e {l:List UInt8} {e:Ending} {w':World} (h:rV l e w'):Fp l e w':=by
 unfold rV at h
 unfold Fp
 split at h
 ·exact h
 ·obtain ⟨A,cap,h1,h2,-⟩:=h
  exact ⟨A,cap,h1,h2⟩
theorem mU.slc {w:World} {base:Nat} {v:Value} {l:List Tk} (h:mU w base v l):∃ A cap,v=.slice A l.length cap∧Sl 6 Cd w w.heap.size A l∧l.length≤cap∧cap≤maxLen:=by
 obtain ⟨A,cap,hv,hS⟩:=h.sl
 refine ⟨A,cap,hv,hS,?_⟩
 rcases h.2 with ⟨e,hz⟩|⟨g,cap',cur,e,_,_,hc,hm,_⟩
 ·rw [hv] at e
  injection e with e1 e2 e3
  exact ⟨by omega,by rw [e3];exact Hz _⟩
 ·rw [hv] at e
  injection e with e1 e2 e3
  exact ⟨by omega,by rw [e3];exact hm⟩
def nD (acc:List Tk):Except (Int×Nat) (List Tk)→Except (Int×Nat) (List Tk)
 | .error x=>.error x
 | .ok r=>.ok (acc++r)
theorem Bi (x:Except (Int×Nat) (List Tk)):nD [] x=x:=by cases x<;>rfl
theorem xR (acc:List Tk) (t:Tk) (x:Except (Int×Nat) (List Tk)):nD acc (nD [t] x)=nD (acc++ [t]) x:=by cases x<;>simp [nD]
theorem Gc (w:World) (s:ByteArray):fB ((((w.alloc (.cells #[.string s] 9)).alloc (.cells #[.slice none 0 0] 173)).alloc (.cells #[.int .i64 0,.int .i64 0,.int .i64 0] 60)).alloc (.cells #[.int .i64 0] 3)) w.heap.size s 0 (.slice none 0 0)∧Below w.heap.size w ((((w.alloc (.cells #[.string s] 9)).alloc (.cells #[.slice none 0 0] 173)).alloc (.cells #[.int .i64 0,.int .i64 0,.int .i64 0] 60)).alloc (.cells #[.int .i64 0] 3)):=by
 obtain ⟨wa,hwa,hsa,hba,hca,hfa⟩:=af w #[.string s] 9
 obtain ⟨wb,hwb,hsb,hbb,hcb,hfb⟩:=af wa #[.slice none 0 0] 173
 obtain ⟨wc,hwc,hsc,hbc,hcc,hfc⟩:=af wb #[.int .i64 0,.int .i64 0,.int .i64 0] 60
 obtain ⟨wd,hwd,hsd,hbd,hcd,hfd⟩:=af wc #[.int .i64 0] 3
 rw [hwa,hwb,hwc,hwd]
 have e1:wa.heap.size=w.heap.size+1:=hsa
 have e2:wb.heap.size=w.heap.size+2:=by omega
 have e3:wc.heap.size=w.heap.size+3:=by omega
 have hbbc:=hbb.trans (hbc.mono (by omega))
 have hbbd:=hbbc.trans (hbd.mono (by omega))
 have hbcd:=hbc.trans (hbd.mono (by omega))
 have k1:=ae hbbd
 have k2:=ae hbcd
 have k3:=ae hbd
 rw [e1] at hcb hfb
 rw [e2] at hcc hfc
 rw [e3] at hcd hfd
 exact ⟨⟨by omega,(k1.1 _ 0 (by omega)).trans (hca 0),(k2.1 _ 0 (by omega)).trans (hcb 0),(k3.1 _ 0 (by omega)).trans (hcc 0),(k3.1 _ 1 (by omega)).trans (hcc 1),(k3.1 _ 2 (by omega)).trans (hcc 2),hcd 0,(k2.2 _ 0 (by omega)).trans (hfb 0),(k3.2 _ 0 (by omega)).trans (hfc 0),(k3.2 _ 1 (by omega)).trans (hfc 1),(k3.2 _ 2 (by omega)).trans (hfc 2),hfd 0⟩,hba.trans (hbbd.mono (by omega))⟩
theorem Bj {l:List UInt8} {x:Nat×List UInt8×Nat×Nat} (h:f9 l=.ok x):1≤x.2.1.length∧x.2.1.length≤l.length:=by
 have hwl:=kT l
 have hlen:(l.take (bA l)).length=bA l:=by rw [HO];omega
 have hmk:aK l≠ []→1≤(aK l).length∧(aK l).length≤l.length:=by
  intro hne
  refine ⟨Ij.2 hne,?_⟩
  have:∀ ms:List (List UInt8),(aL ms l).length≤l.length:=by
   intro ms
   induction ms with
   |nil=>
    unfold aL
    split
    ·rw [HO];omega
    ·simp
   |cons m r ih=>
    unfold aL
    split
    ·rename_i hp
     exact (List.isPrefixOf_iff_prefix.1 hp).length_le
    ·exact ih
  exact this aD
 unfold f9 at h
 simp only at h
 split at h
 ·split at h
  ·cases h
  ·rename_i hm
   injection h with h
   rw [←h]
   exact hmk hm
 ·rename_i hw
  have hw1:1≤bA l:=by rw [←hlen];exact Ij.2 hw
  split at h
  ·split at h
   ·cases h
   ·injection h with h
    rw [←h]
    simp only [hlen]
    omega
  ·split at h
   ·cases h
   ·injection h with h
    rw [←h]
    simp only [hlen]
    omega
theorem jG (fu k:Nat) (l:List UInt8):ip (fu+1) k l=if l.drop (dq false l)= [] then .ok [⟨0,[],0,0,k+dq false l⟩] else match f9 (l.drop (dq false l)) with
   | .error e=>.error (e,k+dq false l)
   | .ok x=>nD [⟨x.1,x.2.1,x.2.2.1,x.2.2.2,k+dq false l⟩] (ip fu (k+dq false l+x.2.1.length) ((l.drop (dq false l)).drop x.2.1.length)):=by
 rw [ip]
 split
 ·rfl
 ·cases f9 (l.drop (dq false l)) with
  |error e=>rfl
  |ok x=>
   simp only
   generalize ip fu (k+dq false l+x.2.1.length) ((l.drop (dq false l)).drop x.2.1.length)=y
   cases y<;>rfl
theorem Bk {fu k:Nat} {l:List UInt8} (h:l.drop (dq false l)= []):ip (fu+1) k l=.ok [⟨0,[],0,0,k+dq false l⟩]:=by
 rw [jG]
 exact if_pos h
theorem Bm {fu k:Nat} {l:List UInt8} {n:Int} (h:l.drop (dq false l)≠ []) (he:f9 (l.drop (dq false l))=.error n):ip (fu+1) k l=.error (n,k+dq false l):=by
 rw [jG,if_neg h,he]
theorem Dc {fu k:Nat} {l:List UInt8} {x:Nat×List UInt8×Nat×Nat} (h:l.drop (dq false l)≠ []) (he:f9 (l.drop (dq false l))=.ok x):ip (fu+1) k l=nD [⟨x.1,x.2.1,x.2.2.1,x.2.2.2,k+dq false l⟩] (ip fu (k+dq false l+x.2.1.length) ((l.drop (dq false l)).drop x.2.1.length)):=by
 rw [jG,if_neg h,he]
theorem rW {w:Nat} {b:Bool} {l:List UInt8} {n:Int} (h:qx w b l=.error n):n=4∨n=5:=by
 unfold qx at h
 cases hp:eK l with
 |error e=>
  rw [hp] at h
  injection h with h
  rw [←h];exact it hp
 |ok m=>
  rw [hp] at h
  unfold zD at h
  simp only at h
  split at h
  ·injection h with h;omega
  ·cases h
theorem Bn {l:List UInt8} {n:Int} (h:f9 l=.error n):n≠0:=by
 unfold f9 at h
 simp only at h
 split at h
 ·split at h
  ·injection h with h;omega
  ·cases h
 ·split at h
  ·split at h
   ·rename_i e hn
    injection h with h
    subst h
    unfold ng at hn
    simp only at hn
    split at hn
    ·split at hn
     ·split at hn
      ·injection hn with hn;omega
      ·have:=rW hn;omega
     ·injection hn with hn;omega
    ·have:=rW hn;omega
   ·cases h
  ·split at h
   ·injection h with h;omega
   ·cases h
theorem fB.setF {W:World} {b k:Nat} {s:ByteArray} {v:Value} (h:fB W b s k v):fB (((W.setCell ⟨b+2,0,none⟩ (.int .i64 0)).setCell ⟨b+2,1,none⟩ (.int .i64 0)).setCell ⟨b+2,2,none⟩ (.int .i64 0)) b s k v:=by
 obtain ⟨lt,c0,c1,e0,e1,e2,c3,f1,g0,g1,g2,f3⟩:=h
 refine ⟨by rw [aw,aw,aw];exact lt,?_,?_,?_,?_,?_,?_,?_,?_,?_,?_,?_⟩<;>simp [go_sem,c0,c1,e0,e1,e2,c3,f1,g0,g1,g2,f3]
theorem Bo (s:ByteArray) (w:World) (hs:s.size<4611686018427387904) (hV:gV w):
  Calls prog 120 #[.string s] w fun e w'=>rV s.data.toList e w'∧Below w.heap.size w w':=by
 have hmf:∀ (fn:Fn) (first cap:Array Value) (w:World),(Instr.makeFunc fn first cap).run prog w=.ok (.func fn first cap) w:=fun _ _ _ _=>rfl
 obtain ⟨hL,hB⟩:=Gc w s
 have hsl:s.size≤9223372036854775807:=by omega
 by_cases hbig:65536<s.size
 ·have hbz:(65536:Int)<(s.size:Int):=by omega
  have hR:iq s.data.toList=.error (3,0):=by unfold iq;rw [if_pos (by rw [←Lib.size_eq];exact hbig)]
  replace hbig:=aa hbig
  replace hL:=aa hL
  replace hB:=aa hB
  go_enter_defers func120,ntmps120
  go_wp2
  replace hR:=aa hR
  refine leaves_cons (f:=159) (args:=#[.pointer (some ⟨w.heap.size,0,none⟩),.pointer (some ⟨w.heap.size+3,0,none⟩),.pointer (some ⟨w.heap.size+1,0,none⟩),.pointer (some ⟨w.heap.size+2,0,none⟩)]) (by simp) (by simp [go_sem]) ?_
  refine (mG w.heap.size 0 s (.slice none 0 0) 3 [] _ hL.out (Hz _) hs (by first|decide|assumption)).mono ?_
  rintro e u' w'' ⟨rfl,rfl,w9,hb9,rfl⟩
  obtain ⟨lt9,c09,c19,e09,e19,e29,c39,f19,g09,g19,g29,f39⟩:=(hL.out).below hb9 (hL.out).lt
  have hfin:=aa ((hB.out).trans (hb9.mono (hB.out).size))
  obtain ⟨pl,hpl⟩:∃ pl,pl=(((bN (s.data.toList.take 0)).1:Nat):Int):=⟨_,rfl⟩
  obtain ⟨pc,hpc⟩:∃ pc,pc=(((bN (s.data.toList.take 0)).2:Nat):Int):=⟨_,rfl⟩
  rw [←hpl,←hpc]
  replace hpl:=aa hpl
  replace hpc:=aa hpc
  simp only [Leaves,settle]
  simp [Leaves,settle,results,results120,go_sem,c09,c19,e09,e19,e29]
  refine ⟨?_,fA (hfin.out.setCell (p:=⟨w.heap.size+1,0,none⟩) (by show w.heap.size≤w.heap.size+1;omega) _) (by omega) _ _ _⟩
  unfold rV
  rw [hR.out,hpl.out,hpc.out]
  rfl
 ·have hbz:¬(65536:Int)<(s.size:Int):=by omega
  have hR0:iq s.data.toList=nD [] (ip (s.size+1) 0 (s.data.toList.drop 0)):=by
   unfold iq
   rw [if_neg (by rw [←Lib.size_eq];exact hbig),Bi,←Lib.size_eq,List.drop_zero]
  have hs6:s.size≤65536:=by omega
  replace hL:=aa hL
  replace hB:=aa hB
  replace hR0:=aa hR0
  clear hbig
  go_enter_defers func120,ntmps120
  go_wp2
  go_loopw [] (fun wr=>∃ (k:Nat) (acc:List Tk) (v:Value) (fuel:Nat),k≤s.size∧Hid (fB wr w.heap.size s k v)∧Hid (mU wr (w.heap.size+4) v acc)∧acc.length≤k∧s.size<fuel+k∧Hid (iq s.data.toList=nD acc (ip fuel k (s.data.toList.drop k)))∧Hid (Below w.heap.size w wr)) (fun wr=>s.size-FI w.heap.size wr)
  case atStart=>exact ⟨0,[],_,s.size+1,Hz _,hL,aa (mU.nil_ _ _),Hz _,by omega,hR0,hB⟩
  case round=>
   clear hL hB hR0
   obtain ⟨k,acc,v,fuel,hk,hL,hT,hak,hfu,hR,hB⟩:=hrel
   obtain ⟨fu,rfl⟩:∃ fu,fuel=fu+1:=⟨fuel-1,by omega⟩
   have hVr:=aa (hV.below hB.out (Ht _))
   have hkw:=aa hL.out.kOf
   obtain ⟨lt,c0,c1,e0,e1,e2,c3,f1,g0,g1,g2,f3⟩:=hL.out
   obtain ⟨gK,hgK⟩:∃ gK,gK=dq false (s.data.toList.drop k):=⟨_,rfl⟩
   have hgl:=jx false (s.data.toList.drop k)
   rw [←hgK,HR,←Lib.size_eq] at hgl
   have hBt:=aa (fun W=>(qP (s.extract k s.size) W (by rw [ByteArray.size_extract];unfold maxLen;omega)).mono fun e w' h=>(⟨h.1,by rw [h.2];exact Hs _ _⟩:_∧Below W.heap.size W w'))
   have hga:((dh (s.extract k s.size) 0:Nat):Int)=(gK:Int):=by
    unfold dh
    rw [iT,List.drop_zero,hgK,H3]
   rw [hga] at hBt
   have hkz:(k:Int)≤(s.size:Int):=by omega
   have hk0:(0:Int)≤(k:Int):=by omega
   obtain ⟨K,hK⟩:∃ K,K=k+gK:=⟨_,rfl⟩
   have hsum:IntKind.i64.wrap ((k:Int)+(gK:Int))=(K:Int):=by rw [IntWalk.i64_in _ (by omega),hK];omega
   have hKs:K≤s.size:=by omega
   have hkK:k≤K:=by omega
   replace hgK:=aa hgK
   replace hK:=aa hK
   have lt0:w.heap.size<wr.heap.size:=by omega
   have lt1:w.heap.size+1<wr.heap.size:=by omega
   have lt2:w.heap.size+2<wr.heap.size:=by omega
   have hg:=uw wr
   go_wp2_with fail
   refine dZ 6 (by kernel_rfl) (by kernel_rfl) ?_
   simp only [List.take_succ_cons,List.take_zero,List.drop_succ_cons,List.drop_zero]
   repeat (any_goals (first|go_big_quiet_step ((go_at_call 160;with_reducible exact Hv (hBt.out _)))|quiet_step ((go_at_call 160;with_reducible exact Hv (hBt.out _)))))
   refine wpQuiet_nil ?_
   intro w1 hw1
   have hL1:=hL.out.below hw1 lt
   have hT1:=hT.out.below hw1 (Ht _)
   have hV1:=hVr.out.below hw1 (Ht _)
   have hB1:=hB.out.trans (hw1.mono hB.out.size)
   obtain ⟨lt',y0,y1,ye0,ye1,ye2,y3,yf1,yg0,yg1,yg2,yf3⟩:=hL1
   have hL2:=aa (show fB (w1.setCell ⟨w.heap.size+1+1+1,0,none⟩ (.int .i64 (K:Int))) w.heap.size s K v from (hL.out.below hw1 lt).setK K)
   have hT2:=aa (show mU (w1.setCell ⟨w.heap.size+1+1+1,0,none⟩ (.int .i64 (K:Int))) (w.heap.size+4) v acc from hT1.set (by omega))
   have hB2:=aa (show Below w.heap.size w (w1.setCell ⟨w.heap.size+1+1+1,0,none⟩ (.int .i64 (K:Int))) from hB1.setCell (p:=⟨w.heap.size+1+1+1,0,none⟩) (by show w.heap.size≤w.heap.size+1+1+1;omega) _)
   clear hL hT hB hVr lt c0 c1 e0 e1 e2 c3 f1 g0 g1 g2 f3 lt0 lt1 lt2 hg hT1 hB1 hsum hga hBt hw1
   go_upto_region 6 with (fail)
   clear lt' y0 y1 ye0 ye1 ye2 y3 yf1 yg0 yg1 yg2 yf3
   have hV2:=aa (hV.below hB2.out (Ht _))
   generalize w1.setCell ⟨w.heap.size+1+1+1,0,none⟩ (.int .i64 (K:Int))=w2 at hL2 hT2 hB2 hV2 ⊢
   clear hV1
   obtain ⟨A,cap,rfl⟩:=hT2.out.form
   obtain ⟨lt,c0,c1,e0,e1,e2,c3,f1,g0,g1,g2,f3⟩:=hL2.out
   have hdk:(s.data.toList.drop k).drop gK=s.data.toList.drop K:=by rw [List.drop_drop,hK.out]
   have hbig4:w.heap.size+4≤w2.heap.size:=by omega
   by_cases hKe:K=s.size
   ·subst hKe
    have hnil:(s.data.toList.drop k).drop (dq false (s.data.toList.drop k))= []:=by
     rw [←hgK.out,hdk];exact List.drop_eq_nil_of_le (by rw [←Lib.size_eq];omega)
    have hR1:=aa (show iq s.data.toList=.ok (acc++ [⟨0,[],0,0,s.size⟩]) from by rw [hR.out,Bk hnil,←hgK.out,←hK.out];rfl)
    obtain ⟨v',w3,hrun,hT3,hb3,-⟩:=qU ⟨0,[],0,0,s.size⟩ hT2.out hbig4 (by unfold dX;omega)
    rw [show (uT ⟨0,[],0,0,s.size⟩).toArray=#[.int .u8 0,.string ⟨#[]⟩,.int .i64 0,.int .u64 0,.int .u64 0,.int .i64 (s.size:Int)] from by simp [uT,EJ]] at hrun
    have hL3:=hL2.out.below hb3 (by omega)
    obtain ⟨lt',y0,y1,ye0,ye1,ye2,y3,yf1,yg0,yg1,yg2,yf3⟩:=hL3
    obtain ⟨A',cap',hv'⟩:=hT3.form
    have hv2:v'=.slice A' (acc.length+1) cap':=by rw [hv',HM];rfl
    clear hv'
    subst hv2
    have hLF:=aa (show fB ((((w3.setCell ⟨w.heap.size+1,0,none⟩ (.slice A' (acc.length+1) cap')).setCell ⟨w.heap.size+1+1,0,none⟩ (.int .i64 0)).setCell ⟨w.heap.size+1+1,1,none⟩ (.int .i64 0)).setCell ⟨w.heap.size+1+1,2,none⟩ (.int .i64 0)) w.heap.size s s.size (.slice A' (acc.length+1) cap') from ((hL2.out.below hb3 (by omega)).setV _).setF)
    have hTF:=aa (show mU ((((w3.setCell ⟨w.heap.size+1,0,none⟩ (.slice A' (acc.length+1) cap')).setCell ⟨w.heap.size+1+1,0,none⟩ (.int .i64 0)).setCell ⟨w.heap.size+1+1,1,none⟩ (.int .i64 0)).setCell ⟨w.heap.size+1+1,2,none⟩ (.int .i64 0)) (w.heap.size+4) (.slice A' (acc.length+1) cap') (acc++ [⟨0,[],0,0,s.size⟩]) from (((hT3.set (k:=w.heap.size+1) (by omega)).set (k:=w.heap.size+1+1) (by omega)).set (k:=w.heap.size+1+1) (by omega)).set (k:=w.heap.size+1+1) (by omega))
    have hBF:=aa (show Below w.heap.size w ((((w3.setCell ⟨w.heap.size+1,0,none⟩ (.slice A' (acc.length+1) cap')).setCell ⟨w.heap.size+1+1,0,none⟩ (.int .i64 0)).setCell ⟨w.heap.size+1+1,1,none⟩ (.int .i64 0)).setCell ⟨w.heap.size+1+1,2,none⟩ (.int .i64 0)) from fA ((hB2.out.trans (hb3.mono (by omega))).setCell (p:=⟨w.heap.size+1,0,none⟩) (by show w.heap.size≤w.heap.size+1;omega) _) (show w.heap.size≤w.heap.size+1+1 by omega) _ _ _)
    clear hT3 hb3 hdk hgK hK hnil hR hL2 hT2 hB2 hV2
    go_wp2
    refine leaves_cons (f:=159) (args:=#[.pointer (some ⟨w.heap.size,0,none⟩),.pointer (some ⟨w.heap.size+3,0,none⟩),.pointer (some ⟨w.heap.size+1,0,none⟩),.pointer (some ⟨w.heap.size+2,0,none⟩)]) (by simp) (by simp [go_sem]) ?_
    refine (xQ _ _ _ _ _).mono ?_
    rintro e u' w'' ⟨rfl,rfl,rfl⟩
    generalize ((((w3.setCell ⟨w.heap.size+1,0,none⟩ (.slice A' (acc.length+1) cap')).setCell ⟨w.heap.size+1+1,0,none⟩ (.int .i64 0)).setCell ⟨w.heap.size+1+1,1,none⟩ (.int .i64 0)).setCell ⟨w.heap.size+1+1,2,none⟩ (.int .i64 0))=w4 at hLF hTF hBF ⊢
    obtain ⟨-,x0,x1,xe0,xe1,xe2,-,-,-,-,-,-⟩:=hLF.out
    simp [Leaves,settle,results,results120,go_sem,x1,xe0,xe1,xe2]
    refine ⟨?_,hBF.out⟩
    obtain ⟨A2,cap2,hv3,hS,hcp⟩:=hTF.out.slc
    unfold rV
    rw [hR1.out]
    refine ⟨A2,cap2,?_,hS,hcp⟩
    rw [←hv3]
    rfl
   ·have hKlt:K<s.size:=by omega
    have hnz:¬(K:Int)=(s.size:Int):=by omega
    have hKz:(K:Int)≤(s.size:Int):=by omega
    have hK0:(0:Int)≤(K:Int):=by omega
    have hne:(s.data.toList.drop k).drop (dq false (s.data.toList.drop k))≠ []:=by
     rw [←hgK.out,hdk]
     intro h
     have:=congrArg List.length h
     rw [HR,←Lib.size_eq] at this
     simp at this;omega
    have hO:=CF (s.extract K s.size) w2 (by rw [ByteArray.size_extract];omega) (by rw [ByteArray.size_extract];omega) hV2.out
    rw [iT] at hO
    have hdk2:(s.data.toList.drop k).drop (dq false (s.data.toList.drop k))=s.data.toList.drop K:=by rw [←hgK.out];exact hdk
    obtain ⟨R,hRe⟩:∃ R,R=f9 (s.data.toList.drop K):=⟨_,rfl⟩
    rw [←hRe] at hO
    rw [←hdk2] at hRe
    cases R with
    |error n=>
     have hn0:n≠0:=Bn hRe.symm
     replace hR:=aa (show iq s.data.toList=.error (n,K) from by rw [hR.out,Bm hne hRe.symm,←hgK.out,←hK.out];rfl)
     replace hO:=aa (show Calls prog _ _ w2 fun e w'=>e=wJ n∧Below w2.heap.size w2 w' from hO)
     replace hRe:=aa hRe
     replace hn0:=aa hn0
     clear hne hdk hdk2 hgK hK hV2
     go_wp2_with (go_at_call 161;refine hO.out.mono ?_;rintro e w5 ⟨rfl,hb5⟩)
     replace hn0:=hn0.out
     refine leaves_cons (f:=159) (args:=#[.pointer (some ⟨w.heap.size,0,none⟩),.pointer (some ⟨w.heap.size+3,0,none⟩),.pointer (some ⟨w.heap.size+1,0,none⟩),.pointer (some ⟨w.heap.size+2,0,none⟩)]) (by simp) (by simp [go_sem]) ?_
     refine (mG w.heap.size K s (.slice A acc.length cap) n [] _ (hL2.out.below hb5 lt) hKs hs (by first|decide|assumption)).mono ?_
     rintro e u' w'' ⟨rfl,rfl,w9,hb9,rfl⟩
     obtain ⟨lt9,c09,c19,e09,e19,e29,c39,f19,g09,g19,g29,f39⟩:=((hL2.out.below hb5 lt)).below hb9 ((hL2.out.below hb5 lt)).lt
     have hfin:=aa (((hB2.out.trans (hb5.mono hB2.out.size))).trans (hb9.mono ((hB2.out.trans (hb5.mono hB2.out.size))).size))
     obtain ⟨pl,hpl⟩:∃ pl,pl=(((bN (s.data.toList.take K)).1:Nat):Int):=⟨_,rfl⟩
     obtain ⟨pc,hpc⟩:∃ pc,pc=(((bN (s.data.toList.take K)).2:Nat):Int):=⟨_,rfl⟩
     rw [←hpl,←hpc]
     replace hpl:=aa hpl
     replace hpc:=aa hpc
     simp only [Leaves,settle]
     simp [Leaves,settle,results,results120,go_sem,c09,c19,e09,e19,e29]
     refine ⟨?_,fA (hfin.out.setCell (p:=⟨w.heap.size+1,0,none⟩) (by show w.heap.size≤w.heap.size+1;omega) _) (by omega) _ _ _⟩
     unfold rV
     rw [hR.out,hpl.out,hpc.out]
     rfl
    |ok x=>
     obtain ⟨kd,sl,wd,n⟩:=x
     have hpos:=Bj hRe.symm
     rw [hdk2,HR,←Lib.size_eq] at hpos
     simp only at hpos
     obtain ⟨sB,hsB⟩:∃ sB:ByteArray,sB=⟨sl.toArray⟩:=⟨_,rfl⟩
     have hsz:sB.size=sl.length:=by rw [hsB,Lib.size_eq]
     replace hR:=aa (show iq s.data.toList=nD (acc++ [⟨kd,sl,wd,n,K⟩]) (ip fu (K+sl.length) (s.data.toList.drop (K+sl.length))) from by rw [hR.out,Dc hne hRe.symm,xR,hdk2,←hgK.out,←hK.out,List.drop_drop])
     have hO':=aa (show Calls prog 161 #[.string (s.extract K s.size)] w2 fun e w'=>e=.returned (.agg #[.int .u8 (kd:Int),.string sB,.int .i64 (wd:Int),.int .u64 ((n / 18446744073709551616:Nat):Int),.int .u64 ((n % 18446744073709551616:Nat):Int),.int .i64 0])∧Below w2.heap.size w2 w' from by rw [hsB];exact hO)
     have htv:(uT ⟨kd,sl,wd,n,K⟩).toArray=#[.int .u8 (kd:Int),.string sB,.int .i64 (wd:Int),.int .u64 ((n / 18446744073709551616:Nat):Int),.int .u64 ((n % 18446744073709551616:Nat):Int),.int .i64 (K:Int)]:=by rw [hsB];rfl
     clear hne hdk hdk2 hgK hK hV2 hO hRe hsB
     generalize ((n / 18446744073709551616:Nat):Int)=nh at hO' htv
     generalize ((n % 18446744073709551616:Nat):Int)=nl at hO' htv
     generalize hkd:(kd:Int)=kz at hO' htv
     generalize hwd:(wd:Int)=wz at hO' htv
     replace htv:=aa htv
     replace hkd:=aa hkd
     replace hwd:=aa hwd
     replace hsz:=aa hsz
     go_upto_region 9 with (go_at_call 161;refine hO'.out.mono ?_;rintro e w5 ⟨rfl,hb5⟩)
     have hL5:=hL2.out.below hb5 lt
     have hT5:=hT2.out.below hb5 (Ht _)
     have hB5:=hB2.out.trans (hb5.mono hB2.out.size)
     have hz5:=hb5.size
     obtain ⟨w6,hw6,hs6',hb6,hc6,hf6⟩:=af w5 #[.int .u8 kz,.string sB,.int .i64 wz,.int .u64 nh,.int .u64 nl,.int .i64 (K:Int)] 209
     have hL6:=hL5.below hb6 hL5.lt
     have hT6:=hT5.below hb6 (Ht _)
     have hB6:=hB5.trans (hb6.mono hB5.size)
     obtain ⟨v',w7,hrun,hT7,hb7,hkeep⟩:=qU ⟨kd,sl,wd,n,K⟩ hT6 (by omega) (by unfold dX;omega)
     rw [htv.out] at hrun
     have hown:some w5.heap.size≠(Value.slice A acc.length cap).ownBlock:=fun h=>by
      have:=(World.ownsRow.lt hT5 _ h.symm).2
      omega
     have h57:w7.heap[w5.heap.size]? =w6.heap[w5.heap.size]? :=hkeep _ (by omega) hown
     have t1:w7.cell? ⟨w5.heap.size,1,none⟩=some (.string sB):=(World.cell?_of_block (a:=⟨w5.heap.size,1,none⟩) h57).trans (hc6 1)
     have b0:=hc6 0
     have b1:=hc6 1
     have b2:=hc6 2
     have b3:=hc6 3
     have b4:=hc6 4
     have b5:=hc6 5
     simp at b0 b1 b2 b3 b4 b5
     have hL7:=hL6.below hb7 (by omega)
     obtain ⟨A',cap',hv'⟩:=hT7.form
     have hv2:v'=.slice A' (acc.length+1) cap':=by rw [hv',HM];rfl
     clear hv'
     subst hv2
     have hzz:(((K+sl.length:Nat)):Int)=(K:Int)+(sB.size:Int):=by rw [hsz.out];omega
     have hLF:=aa (show fB ((w7.setCell ⟨w.heap.size+1,0,none⟩ (.slice A' (acc.length+1) cap')).setCell ⟨w.heap.size+1+1+1,0,none⟩ (.int .i64 ((K:Int)+(sB.size:Int)))) w.heap.size s (K+sl.length) (.slice A' (acc.length+1) cap') from by rw [←hzz];exact (hL7.setV _).setK _)
     have hTF:=aa (show mU ((w7.setCell ⟨w.heap.size+1,0,none⟩ (.slice A' (acc.length+1) cap')).setCell ⟨w.heap.size+1+1+1,0,none⟩ (.int .i64 ((K:Int)+(sB.size:Int)))) (w.heap.size+4) (.slice A' (acc.length+1) cap') (acc++ [⟨kd,sl,wd,n,K⟩]) from (hT7.set (k:=w.heap.size+1) (by omega)).set (k:=w.heap.size+1+1+1) (by omega))
     have hBF:=aa (show Below w.heap.size w ((w7.setCell ⟨w.heap.size+1,0,none⟩ (.slice A' (acc.length+1) cap')).setCell ⟨w.heap.size+1+1+1,0,none⟩ (.int .i64 ((K:Int)+(sB.size:Int)))) from ((hB6.trans (hb7.mono (by omega))).setCell (p:=⟨w.heap.size+1,0,none⟩) (by show w.heap.size≤w.heap.size+1;omega) _).setCell (p:=⟨w.heap.size+1+1+1,0,none⟩) (by show w.heap.size≤w.heap.size+1+1+1;omega) _)
     obtain ⟨lt6,q0,q1,qe0,qe1,qe2,q3,qf1,qg0,qg1,qg2,qf3⟩:=hL6
     obtain ⟨lt7,r0,r1,re0,re1,re2,r3,rf1,rg0,rg1,rg2,rf3⟩:=hL7
     have hsbz:(K:Int)+(sB.size:Int)≤65536:=by rw [hsz.out];omega
     have h5a:w.heap.size+1<w5.heap.size:=by omega
     have h5b:w.heap.size+3<w5.heap.size:=by omega
     have h56:w5.heap.size<w6.heap.size:=by omega
     have h57':w5.heap.size<w7.heap.size:=Hr h56 hb7.size
     have hms:=aa (show s.size-FI w.heap.size ((w7.setCell ⟨w.heap.size+1,0,none⟩ (.slice A' (acc.length+1) cap')).setCell ⟨w.heap.size+1+1+1,0,none⟩ (.int .i64 ((K:Int)+(sB.size:Int))))<s.size-FI w.heap.size wr from by rw [hLF.out.kOf,hkw.out];omega)
     obtain ⟨-,p0,p1,-,-,-,p3,-,-,-,-,-⟩:=hL5
     replace hs6':=aa hs6'
     clear hzz hown hkeep h57 hT5 hB5 hT6 hB6 hb6 hb7 hT7 hb5 hc6 hf6
     go_wp2
     go_roundw
     case rel=>exact ⟨K+sl.length,acc++ [⟨kd,sl,wd,n,K⟩],_,fu,by omega,hLF,hTF,by rw [HM];simp;omega,by omega,hR,hBF⟩
     case measure=>exact hms.out
end
section
attribute [local go_sem] run_panic_iface
theorem rX {L:List UInt8} {r:List Tk} (h:iq L=.ok r):eL r:=by
 unfold iq at h
 split at h
 ·cases h
 ·rename_i hl
  obtain ⟨h1,h2,-,-,-⟩:=lQ 0 L _ 0 L r (HV _) List.drop_zero (by omega) h
  have hp:=Ij.2 h1
  refine ⟨⟨r[r.length-1],HE _,(h2 (r.length-1) (by omega)).1 (by omega)⟩,fun t ht=> ?_⟩
  obtain ⟨j,hj,rfl⟩:=H0 ht
  have:=(h2 j hj).2.2.length_le
  rw [HR] at this
  omega
theorem Dd (W:World):(Instr.typeAssert .nilIface 20 177 true).run prog W=.ok (.tuple #[.agg #[.int .i64 0,.int .i64 0],.bool false]) W:=by kernel_rfl
structure sF (W:World) (b:Nat) (s:ByteArray):Prop where
 lt:b+3<W.heap.size
 c0:W.cell? ⟨b+1,0,none⟩=some (.string s)
 z0:W.cell? ⟨b+2,0,none⟩=some (.slice none 0 0)
 e0:W.cell? ⟨b+3,0,none⟩=some (.int .i64 0)
 e1:W.cell? ⟨b+3,1,none⟩=some (.int .i64 0)
 e2:W.cell? ⟨b+3,2,none⟩=some (.int .i64 0)
 f0:W.frozen? ⟨b+2,0,none⟩=false
 g0:W.frozen? ⟨b+3,0,none⟩=false
 g1:W.frozen? ⟨b+3,1,none⟩=false
 g2:W.frozen? ⟨b+3,2,none⟩=false
theorem sF.below {W W':World} {b B:Nat} {s:ByteArray} (h:sF W b s) (hb:Below B W W') (hB:b+3<B):sF W' b s:=by
 have kk:=ae hb
 exact ⟨Hr h.lt (by have:=hb.size;exact this),(kk.1 (b+1) 0 (by omega)).trans h.c0,(kk.1 (b+2) 0 (by omega)).trans h.z0,(kk.1 (b+3) 0 (by omega)).trans h.e0,(kk.1 (b+3) 1 (by omega)).trans h.e1,(kk.1 (b+3) 2 (by omega)).trans h.e2,(kk.2 (b+2) 0 (by omega)).trans h.f0,(kk.2 (b+3) 0 (by omega)).trans h.g0,(kk.2 (b+3) 1 (by omega)).trans h.g1,(kk.2 (b+3) 2 (by omega)).trans h.g2⟩
theorem Gd (w:World) (C:Array Value) (s:ByteArray):∃ wa wb wd,w.alloc (.cells C 33)=wa∧wa.alloc (.cells #[.string s] 9)=wb∧wb.alloc (.cells #[.slice none 0 0] 34)=wd∧wa.heap.size=w.heap.size+1∧wb.heap.size=w.heap.size+2∧wd.heap.size=w.heap.size+3∧
  ∃ wc,wd.alloc (.cells #[.int .i64 0,.int .i64 0,.int .i64 0] 60)=wc∧sF wc w.heap.size s∧Below w.heap.size w wc∧(∀ i,wc.cell? ⟨w.heap.size,i,none⟩=C[i]?)∧wc.heap.size=w.heap.size+4:=by
 obtain ⟨wa,hwa,hsa,hba,hca,hfa⟩:=af w C 33
 obtain ⟨wb,hwb,hsb,hbb,hcb,hfb⟩:=af wa #[.string s] 9
 obtain ⟨wd,hwd,hsd,hbd,hcd,hfd⟩:=af wb #[.slice none 0 0] 34
 obtain ⟨wc,hwc,hsc,hbc,hcc,hfc⟩:=af wd #[.int .i64 0,.int .i64 0,.int .i64 0] 60
 have e1:wb.heap.size=w.heap.size+2:=by omega
 have e2:wd.heap.size=w.heap.size+3:=by omega
 have k1:=ae (hbb.trans ((hbd.trans (hbc.mono (by omega))).mono (by omega)))
 have k2:=ae (hbd.trans (hbc.mono (by omega)))
 have k3:=ae hbc
 rw [hsa] at hcb hfb k1
 rw [e1] at hcd hfd k2
 rw [e2] at hcc hfc k3
 exact ⟨wa,wb,wd,hwa,hwb,hwd,hsa,e1,e2,wc,hwc,⟨by omega,(k2.1 _ 0 (by omega)).trans (hcb 0),(k3.1 _ 0 (by omega)).trans (hcd 0),hcc 0,hcc 1,hcc 2,(k3.2 _ 0 (by omega)).trans (hfd 0),hfc 0,hfc 1,hfc 2⟩,hba.trans ((hbb.trans ((hbd.trans (hbc.mono (by omega))).mono (by omega))).mono (by omega)),fun i=>(k1.1 _ i (by omega)).trans (hca i),by omega⟩
theorem ue (p q r:Addr) (w:World):
  CallsD prog 121 #[.pointer (some p),.pointer (some q),.pointer (some r)] .returning w fun e u' w'=>e=.returned (.tuple #[])∧u'=.returning∧Below w.heap.size w w':=by
 obtain ⟨wx,hwx,hsx,hbx,hcx,hfx⟩:=af w #[.int .i64 0,.int .i64 0] 177
 refine callsD_of_wpS func121 rfl fun c₀ cs hu=> ?_
 apply wpS_seq
 apply wpS_region
 refine fF fun K hK=> ?_
 simp [wpOpsS,go_sem,Dd,recoverD,hu,ntmps121]
 refine hK _ _ _ _ ?_
 clear hK K
 show Code.wpS _ _ _ _ _ _
 apply wpS_seq
 apply wpS_region
 refine fF fun K hK=> ?_
 simp [wpOpsS,go_sem]
 refine hK _ _ _ _ ?_
 clear hK K
 show Code.wpS _ _ _ _ _ _
 refine wpS_cond (t:=false) (by simp [Act.eval,Array.replicate]) ?_
 simp only [H2,if_false]
 refine wpS_of_wp ?_
 rw [hwx]
 go_wp2
 exact ⟨rfl,.returning,by cases c₀;simp_all,.tuple #[],by simp [results,results121],rfl,rfl,hbx⟩
theorem sF.sameC {w:World} {a:Addr} {v:Value} (h:w.cell? a=some v) (p:Addr):(w.setCell a v).cell? p=w.cell? p:=by
 by_cases hp:a=p
 ·subst hp
  rw [World.cell?_setCell_same _ _ _ h,h]
 ·exact World.cell?_setCell_other _ _ _ _ hp
theorem sF.same {W:World} {b:Nat} {s:ByteArray} (h:sF W b s) (p:Addr):(((W.setCell ⟨b+3,0,none⟩ (.int .i64 0)).setCell ⟨b+3,1,none⟩ (.int .i64 0)).setCell ⟨b+3,2,none⟩ (.int .i64 0)).cell? p=W.cell? p:=by
 have h1:(W.setCell ⟨b+3,0,none⟩ (.int .i64 0)).cell? ⟨b+3,1,none⟩=some (.int .i64 0):=(sF.sameC h.e0 _).trans h.e1
 have h2:((W.setCell ⟨b+3,0,none⟩ (.int .i64 0)).setCell ⟨b+3,1,none⟩ (.int .i64 0)).cell? ⟨b+3,2,none⟩=some (.int .i64 0):=(sF.sameC h1 _).trans ((sF.sameC h.e0 _).trans h.e2)
 rw [sF.sameC h2,sF.sameC h1,sF.sameC h.e0]
theorem sF.setF {W:World} {b:Nat} {s:ByteArray} (h:sF W b s):sF (((W.setCell ⟨b+3,0,none⟩ (.int .i64 0)).setCell ⟨b+3,1,none⟩ (.int .i64 0)).setCell ⟨b+3,2,none⟩ (.int .i64 0)) b s:=by
 obtain ⟨lt,c0,z0,e0,e1,e2,f0,g0,g1,g2⟩:=h
 refine ⟨by rw [aw,aw,aw];exact lt,?_,?_,?_,?_,?_,?_,?_,?_,?_⟩<;>simp [go_sem,c0,z0,e0,e1,e2,f0,g0,g1,g2]
end
section
attribute [local go_sem] run_panic_iface
theorem Fq {w W:World} {b:Nat} (h:Below b w W) (a c d e:Value):Below b w ((((W.setCell ⟨b+2,0,none⟩ a).setCell ⟨b+3,0,none⟩ c).setCell ⟨b+3,1,none⟩ d).setCell ⟨b+3,2,none⟩ e):=
 (((h.setCell (p:=⟨b+2,0,none⟩) (Nat.le_add_right _ _) a).setCell (p:=⟨b+3,0,none⟩) (Nat.le_add_right _ _) c).setCell (p:=⟨b+3,1,none⟩) (Nat.le_add_right _ _) d).setCell (p:=⟨b+3,2,none⟩) (Nat.le_add_right _ _) e
theorem eN.setg {w:World} {B og k i:Nat} {v:Value} {vs:List Value} {out:List (List aA)} (h:eN w B og vs out) (hk:k<B):eN (w.setCell ⟨k,i,none⟩ v) B og vs out:=h.grg (aE.set k w i v) hk
theorem pJ:∀ args w,(callFunc 122 args).run prog w=.ok (.enter 122 args) w:=enters_of func122 (by kernel_rfl) rfl
theorem Bp (A1 A2 A3 A4 A5 A6 A7 A8 A9 A10 A11 A12:Option Addr) (p:Lp) (c1 c2 c3 c4 c5 c6 c7 c8 c9 c10 c11 c12:Nat) (ASW:Option Addr) (cSW:Nat) (sw:List ByteArray) (s:ByteArray) (r:List Tk) (out:List (List aA)) (fz:Nat) (mm:Int) (w:World) (hP:cz w w.heap.size A1 A2 A3 A4 A5 A6 A7 A8 A9 A10 A11 A12 p) (hmay:bR p=true) (hsw:sw.length≤8) (hSw:Sl 1 cJ w w.heap.size ASW sw) (hs:s.size<4611686018427387904) (hV:gV w) (hml:0<w.heap.size) (hm:w.cell? ⟨0,0,none⟩=some (.int .i64 mm)) (hR:iq s.data.toList=.ok r) (ho:np p sw fz (H8 sw.length []) r=some out):
  Calls prog 68 #[.agg (aO A1 A2 A3 A4 A5 A6 A7 A8 A9 A10 A11 A12 p c1 c2 c3 c4 c5 c6 c7 c8 c9 c10 c11 c12),.slice ASW sw.length cSW,.string s] w fun e w'=>∃ A,e=.returned (.tuple #[.slice A sw.length sw.length,.agg #[.int .i64 0,.int .i64 0,.int .i64 0]])∧out.length=sw.length∧Sl 1 em w' w'.heap.size A out∧Below w.heap.size w w':=by
 unfold aO
 have hmf:∀ (fn:Fn) (first cap:Array Value) (w:World),(Instr.makeFunc fn first cap).run prog w=.ok (.func fn first cap) w:=fun _ _ _ _=>rfl
 obtain ⟨wa,wb,wd,hwa,hwb,hwd,hsa,hsb,hsd,wc,hwc,hL,hB,hY,hsc⟩:=Gd w #[.slice A1 p.heads.length c1,.slice A2 p.metas.length c2,.slice A3 p.steps.length c3,.slice A4 p.acts.length c4,.slice A5 p.tabs.length c5,.slice A6 p.control.length c6,.slice A7 p.emit.length c7,.slice A8 p.nh.length c8,.slice A9 p.nf.length c9,.slice A10 p.nm.length c10,.slice A11 p.na.length c11,.slice A12 p.nt.length c12] s
 obtain ⟨y0,y1,y2,y3,y4,y5,y6,y7,y8,y9,y10,y11⟩:=aF hY
 have hPc:=(hP.below hB).more (B':=wc.heap.size) hB.size
 have hM:=dA A1 A2 A3 A4 A5 A6 A7 A8 A9 A10 A11 A12 p c1 c2 c3 c4 c5 c6 c7 c8 c9 c10 c11 c12 wc hPc
 rw [hmay] at hM
 replace hM:=aa hM
 have d8:decide ((8:Int)<(sw.length:Int))=false:=decide_eq_false (by omega)
 have d8':decide (8<sw.length)=false:=decide_eq_false (by omega)
 have lp0:w.heap.size<wc.heap.size:=by omega
 have lt:=hL.lt
 have hLx:=aa (fun (W:World) (hW:Below wc.heap.size wc W)=>show Calls prog 120 #[.string s] W fun e w'=>(∃ A cap,e=.returned (.tuple #[.slice A r.length cap,.agg #[.int .i64 0,.int .i64 0,.int .i64 0]])∧Sl 6 Cd w' w'.heap.size A r∧r.length≤cap∧cap≤maxLen)∧Below W.heap.size W w' from by
  have h:=Bo s W hs ((hV.below hB (Ht _)).below hW (by omega))
  unfold rV at h
  rw [hR] at h
  exact h)
 have hEn:=aa (rX hR)
 have eg:=pJ
 have hm0:=aa ((hB.cell (p:=⟨0,0,none⟩) hml).trans hm)
 have hB':=aa hB
 have hYc:=aa hY
 replace hB:=aa hB
 replace hsc:=aa hsc
 replace hL:=aa hL
 obtain ⟨-,c0,z0,e0,e1,e2,f0,g0,g1,g2⟩:=hL.out
 go_enter_defers func68,ntmps68
 go_upto_region 3 with (go_at_call 22;refine hM.out.mono ?_;rintro e w2 ⟨rfl,hb2⟩;have kb:=hL.out.below hb2 lt;obtain ⟨lt2,yc0,yz0,ye0,ye1,ye2,yf0,yg0,yg1,yg2⟩:=kb)
 clear y0 y1 y2 y3 y4 y5 y6 y7 y8 y9 y10 y11
 go_upto_region 6 with (go_at_call 120;refine (hLx.out _ hb2).mono ?_;rintro e w3 ⟨⟨A,cap,rfl,hSl,hc1,hc2⟩,hb3⟩;have kb:=(hL.out.below hb2 lt).below hb3 lt2;obtain ⟨lt3,xc0,xz0,xe0,xe1,xe2,xf0,xg0,xg1,xg2⟩:=kb)
 have hL3:=aa ((hL.out.below hb2 lt).below hb3 lt2)
 have hb23:=hb2.trans (hb3.mono hb2.size)
 have hB4:=aa (show Below w.heap.size w (((w3.setCell ⟨w.heap.size+3,0,none⟩ (.int .i64 0)).setCell ⟨w.heap.size+3,1,none⟩ (.int .i64 0)).setCell ⟨w.heap.size+3,2,none⟩ (.int .i64 0)) from fA (hB.out.trans (hb23.mono hB.out.size)) (by omega) _ _ _)
 have hL4:=aa hL3.out.setF
 have hS4:=aa (show Sl 6 Cd (((w3.setCell ⟨w.heap.size+3,0,none⟩ (.int .i64 0)).setCell ⟨w.heap.size+3,1,none⟩ (.int .i64 0)).setCell ⟨w.heap.size+3,2,none⟩ (.int .i64 0)) w3.heap.size A r from hSl.keep me fun q _=>hL3.out.same q)
 have hY4:=aa (fun i=>(hL3.out.same ⟨w.heap.size,i,none⟩).trans ((hb23.cell (p:=⟨w.heap.size,i,none⟩) lp0).trans (hYc.out i)))
 have hP4:=aa (show cz (((w3.setCell ⟨w.heap.size+3,0,none⟩ (.int .i64 0)).setCell ⟨w.heap.size+3,1,none⟩ (.int .i64 0)).setCell ⟨w.heap.size+3,2,none⟩ (.int .i64 0)) w.heap.size A1 A2 A3 A4 A5 A6 A7 A8 A9 A10 A11 A12 p from hP.keep fun a ha=>(hL3.out.same a).trans ((hb23.cell (HW ha lp0)).trans (hB.out.cell ha)))
 have hW4:=aa (show Sl 1 cJ (((w3.setCell ⟨w.heap.size+3,0,none⟩ (.int .i64 0)).setCell ⟨w.heap.size+3,1,none⟩ (.int .i64 0)).setCell ⟨w.heap.size+3,2,none⟩ (.int .i64 0)) w.heap.size ASW sw from hSw.keep aG fun a ha=>(hL3.out.same a).trans ((hb23.cell (HW ha lp0)).trans (hB.out.cell ha)))
 have hm4:=aa ((hL3.out.same ⟨0,0,none⟩).trans ((hb23.cell (p:=⟨0,0,none⟩) (by show 0<wc.heap.size;omega)).trans hm0.out))
 have hz4:(((w3.setCell ⟨w.heap.size+3,0,none⟩ (.int .i64 0)).setCell ⟨w.heap.size+3,1,none⟩ (.int .i64 0)).setCell ⟨w.heap.size+3,2,none⟩ (.int .i64 0)).heap.size=w3.heap.size:=by rw [aw,aw,aw]
 generalize (((w3.setCell ⟨w.heap.size+3,0,none⟩ (.int .i64 0)).setCell ⟨w.heap.size+3,1,none⟩ (.int .i64 0)).setCell ⟨w.heap.size+3,2,none⟩ (.int .i64 0))=w4 at hB4 hL4 hS4 hY4 hP4 hW4 hm4 hz4 ⊢
 clear yc0 yz0 ye0 ye1 ye2 yf0 yg0 yg1 yg2 xc0 xz0 xe0 xe1 xe2 xf0 xg0 xg1 xg2 hLx hL hL3 hB hSl hb2 hb3 hb23 hM c0 z0 e0 e1 e2 f0 g0 g1 g2 lt2 lt3 hwa hwb hwd hsa hsb hsd hwc
 obtain ⟨y0,y1,y2,y3,y4,y5,y6,y7,y8,y9,y10,y11⟩:=aF hY4.out
 obtain ⟨lt4,c0,z0,e0,e1,e2,f0,g0,g1,g2⟩:=hL4.out
 obtain ⟨w5,hw5,hs5,hb5,-,-⟩:=af w4 #[.slice A1 p.heads.length c1,.slice A2 p.metas.length c2,.slice A3 p.steps.length c3,.slice A4 p.acts.length c4,.slice A5 p.tabs.length c5,.slice A6 p.control.length c6,.slice A7 p.emit.length c7,.slice A8 p.nh.length c8,.slice A9 p.nf.length c9,.slice A10 p.nm.length c10,.slice A11 p.na.length c11,.slice A12 p.nt.length c12,.slice ASW sw.length cSW,.slice A r.length cap] 181
 have lw4:w.heap.size<w4.heap.size:=by omega
 have hRd:=aa (show bq w5.drew w4.heap.size r #[.slice A1 p.heads.length c1,.slice A2 p.metas.length c2,.slice A3 p.steps.length c3,.slice A4 p.acts.length c4,.slice A5 p.tabs.length c5,.slice A6 p.control.length c6,.slice A7 p.emit.length c7,.slice A8 p.nh.length c8,.slice A9 p.nf.length c9,.slice A10 p.nm.length c10,.slice A11 p.na.length c11,.slice A12 p.nt.length c12,.slice ASW sw.length cSW] from by
  refine ⟨hEn.out,rfl,A,cap,hc1,hc2,?_,?_⟩
  ·show w5.heap[w4.heap.size]? =_
   rw [←hw5]
   exact heap_alloc_new w4 _
  ·have h:=hS4.out.more (B':=w4.heap.size) me (by omega)
   exact h.keep me fun q hq=>hb5.cell hq)
 have hP5:=aa (show cz w5.drew w4.heap.size A1 A2 A3 A4 A5 A6 A7 A8 A9 A10 A11 A12 p from (hP4.out.keep (w':=w5.drew) fun a ha=>hb5.cell (HW ha lw4)).more (HL lw4))
 have hW5:=aa (show Sl 1 cJ w5.drew w4.heap.size ASW sw from (hW4.out.keep (w':=w5.drew) aG fun a ha=>hb5.cell (HW ha lw4)).more aG (HL lw4))
 have hm5:=aa (show w5.drew.cell? ⟨0,0,none⟩=some (.int .i64 mm) from (hb5.cell (p:=⟨0,0,none⟩) (by show 0<w4.heap.size;omega)).trans hm4.out)
 have hL5:=aa (hL4.out.below hb5 lt4)
 have hB5:=aa (hB4.out.trans (hb5.mono hB4.out.size))
 have hb5':=aa hb5
 have hAll:=aa (E5 A1 A2 A3 A4 A5 A6 A7 A8 A9 A10 A11 A12 p c1 c2 c3 c4 c5 c6 c7 c8 c9 c10 c11 c12 ASW cSW sw fz _ rfl w5.drew hRd.out (by omega) hm5.out hP5.out hmay hW5.out (by omega) ho)
 clear hRd hP5 hW5 hm5 hm4 hP4 hW4 hS4 hY4 hEn hP hPc hSw hV hm hmay hR ho hYc hm0 hY
 replace hz4:=aa hz4
 have hAl2:=aa (show Calls prog 122 #[.pointer (some ⟨w4.heap.size,0,none⟩)] w5.drew fun e w'=>e=.returned (.slice (some ⟨w5.heap.size,0,none⟩) sw.length sw.length)∧Hid (∃ vs,eN w' w5.heap.size w5.heap.size vs out∧out.length=sw.length)∧Hid (Below w4.heap.size w5 w')∧w'.cell? ⟨w.heap.size+2,0,none⟩=some (.slice none 0 0)∧w'.cell? ⟨w.heap.size+3,0,none⟩=some (.int .i64 0)∧w'.cell? ⟨w.heap.size+3,1,none⟩=some (.int .i64 0)∧w'.cell? ⟨w.heap.size+3,2,none⟩=some (.int .i64 0)∧w'.frozen? ⟨w.heap.size+2,0,none⟩=false∧w'.frozen? ⟨w.heap.size+3,0,none⟩=false∧w'.frozen? ⟨w.heap.size+3,1,none⟩=false∧w'.frozen? ⟨w.heap.size+3,2,none⟩=false∧w.heap.size+2<w'.heap.size∧w.heap.size+3<w'.heap.size from hAll.out.mono fun e w' h=>by
  obtain ⟨vs,rfl,hO,hln,hG⟩:=h
  have hb:Below w4.heap.size w5 w':=(Hs _ _).drew.trans (hG.below (Ht _) (by show w4.heap.size≤w5.heap.size;omega))
  have hL6:=hL5.out.below hb (by omega)
  obtain ⟨q0,-,q1,q2,q3,q4,q5,q6,q7,q8⟩:=hL6
  exact ⟨rfl,aa ⟨vs,hO,hln⟩,aa hb,q1,q2,q3,q4,q5,q6,q7,q8,by omega,by omega⟩)
 obtain ⟨lt5,d0,u0,v0,v1,v2,h0,i0,i1,i2⟩:=hL5.out
 replace hs5:=aa hs5
 clear hAll c0 z0 e0 e1 e2 f0 g0 g1 g2 hb5
 go_upto_region 9 with fail
 refine wp_region_noPanic ?_
 go_region_with (go_at_fn 122;refine hAl2.out.mono ?_;rintro e w6 ⟨rfl,hO,hb6,y0,y1,y2,y3,y4,y5,y6,y7,y8,y9⟩)
 all_goals refine NoPanic.normal ?_
 all_goals (
  go_wp2
  have hz6:=hb6.out.size
  have hq4:=hB4.out.size
  have hW6:=aa (hB5.out.trans (hb6.out.mono hq4))
  have hBF:=aa (Fq hW6.out (.slice (some ⟨w5.heap.size,0,none⟩) sw.length sw.length) (.int .i64 0) (.int .i64 0) (.int .i64 0))
  obtain ⟨w7,hw7⟩:∃ w7,((((w6.setCell ⟨w.heap.size+2,0,none⟩ (.slice (some ⟨w5.heap.size,0,none⟩) sw.length sw.length)).setCell ⟨w.heap.size+3,0,none⟩ (.int .i64 0)).setCell ⟨w.heap.size+3,1,none⟩ (.int .i64 0)).setCell ⟨w.heap.size+3,2,none⟩ (.int .i64 0))=w7:=⟨_,rfl⟩
  have hq5:w.heap.size+4≤w5.heap.size:=by have:=hs5.out;have:=hz4.out;have:=hq4;omega
  have hNF':=aa (show ∃ vs,eN w7 w5.heap.size w5.heap.size vs out∧out.length=sw.length from by
   obtain ⟨vs,h1,h2⟩:=hO.out
   exact ⟨vs,hw7 ▸ (((h1.setg (k:=w.heap.size+2) (by omega)).setg (k:=w.heap.size+3) (by omega)).setg (k:=w.heap.size+3) (by omega)).setg (k:=w.heap.size+3) (by omega),h2⟩)
  have q0:w7.cell? ⟨w.heap.size+2,0,none⟩=some (.slice (some ⟨w5.heap.size,0,none⟩) sw.length sw.length):=by rw [←hw7];simp [go_sem,y0,y1,y2,y3]
  have q1:w7.cell? ⟨w.heap.size+3,0,none⟩=some (.int .i64 0):=by rw [←hw7];simp [go_sem,y0,y1,y2,y3]
  have q2:w7.cell? ⟨w.heap.size+3,1,none⟩=some (.int .i64 0):=by rw [←hw7];simp [go_sem,y0,y1,y2,y3]
  have q3:w7.cell? ⟨w.heap.size+3,2,none⟩=some (.int .i64 0):=by rw [←hw7];simp [go_sem,y0,y1,y2,y3]
  have l1':w.heap.size+2<w7.heap.size:=by rw [←hw7];simp only [aw];exact y8
  have l2':w.heap.size+3<w7.heap.size:=by rw [←hw7];simp only [aw];exact y9
  have hBF':=aa (show Below w.heap.size w w7 from hw7 ▸ hBF.out)
  have l5':w5.heap.size≤w7.heap.size:=by rw [←hw7];simp only [aw];exact hz6
  rw [hw7]
  clear hw7 hBF hW6 hO hb6 y0 y1 y2 y3 y4 y5 y6 y7 y8 y9
  refine leaves_cons (f:=121) (args:=#[.pointer (some ⟨w.heap.size+1,0,none⟩),.pointer (some ⟨w.heap.size+2,0,none⟩),.pointer (some ⟨w.heap.size+3,0,none⟩)]) (by simp) (by simp [go_sem]) ?_
  refine (ue _ _ _ _).mono ?_
  rintro e u' w'' ⟨rfl,rfl,hb7⟩
  have kk:=ae hb7
  replace q0:=(kk.1 _ 0 l1').trans q0
  replace q1:=(kk.1 _ 0 l2').trans q1
  replace q2:=(kk.1 _ 1 l2').trans q2
  replace q3:=(kk.1 _ 2 l2').trans q3
  have hFF:=aa (show out.length=sw.length∧Sl 1 em w'' w''.heap.size (some ⟨w5.heap.size,0,none⟩) out from by
   obtain ⟨vs,h1,h2⟩:=hNF'.out
   have h3:=h1.sl (by rw [h2];exact Hw hsw (by decide))
   exact ⟨h2,((h3.keep bX fun q hq=>hb7.cell hq).more bX hb7.size)⟩)
  have hBB:=aa (hBF'.out.trans (hb7.mono hBF'.out.size))
  clear kk hb7 hBF' hNF'
  simp [Leaves,settle,results,results68,go_sem,q0,q1,q2,q3]
  exact ⟨hFF.out.1,hFF.out.2,hBB.out⟩)
end
theorem Bq (A1 A2 A3 A4 A5 A6 A7 A8 A9 A10 A11 A12:Option Addr) (p:Lp) (c1 c2 c3 c4 c5 c6 c7 c8 c9 c10 c11 c12:Nat) (ASW:Option Addr) (cSW:Nat) (s:ByteArray) (z mm:Int) (w:World) (hP:cz w w.heap.size A1 A2 A3 A4 A5 A6 A7 A8 A9 A10 A11 A12 p) (hmay:bR p=true) (hsw:Sl 1 cJ w w.heap.size ASW ub) (hV:gV w) (hml:0<w.heap.size) (hm:w.cell? ⟨0,0,none⟩=some (.int .i64 mm)) (ho:np p ub 100 (H8 ub.length []) rM=some [[Be]]):
  Calls prog 29 #[.agg (aO A1 A2 A3 A4 A5 A6 A7 A8 A9 A10 A11 A12 p c1 c2 c3 c4 c5 c6 c7 c8 c9 c10 c11 c12),.slice ASW 1 cSW,.string s,.string DA,.int .i64 z] w fun e w'=>∃ A1 n1 d1 A2 n2 d2,e=.returned (.tuple #[.agg #[.int .u8 1,.int .i64 0,.int .i64 0,.int .i64 0,.slice A1 n1 d1,.int .i64 4,.int .i64 0,.int .i64 0,.slice A2 n2 d2],.agg #[.int .i64 0,.int .i64 0,.int .i64 0]])∧Below w.heap.size w w':=by
 unfold aO
 have hsw0:=aa hsw
 have hm0:=aa hm
 replace hP:=aa hP
 replace hV:=aa hV
 have hml0:=aa hml
 have hmf:∀ (fn:Fn) (first cap:Array Value) (w:World),(Instr.makeFunc fn first cap).run prog w=.ok (.func fn first cap) w:=fun _ _ _ _=>rfl
 obtain ⟨w1,hw1,hs1,hb1,hc1,-⟩:=af w (aO A1 A2 A3 A4 A5 A6 A7 A8 A9 A10 A11 A12 p c1 c2 c3 c4 c5 c6 c7 c8 c9 c10 c11 c12) 33
 obtain ⟨w2,hw2,hs2,hb2,hc2,-⟩:=af w1 #[.string s] 9
 obtain ⟨w3,hw3,hs3,hb3,hc3,-⟩:=af w2 #[.int .i64 z] 3
 obtain ⟨w4,hw4,hs4,hb4,hc4,hf4⟩:=af w3 #[.int .u8 0,.int .i64 0,.int .i64 0,.int .i64 0,.slice none 0 0,.int .i64 0,.int .i64 0,.int .i64 0,.slice none 0 0] 51
 obtain ⟨w5,hw5,hs5,hb5,hc5,hf5⟩:=af w4 #[.int .i64 0,.int .i64 0,.int .i64 0] 60
 have hB5:Below w.heap.size w w5:=hb1.trans ((hb2.trans ((hb3.trans ((hb4.trans (hb5.mono (by omega))).mono (by omega))).mono (by omega))).mono (by omega))
 have hq3:w3.heap.size=w.heap.size+1+1+1:=by omega
 have hq4:w4.heap.size=w.heap.size+1+1+1+1:=by omega
 have hcp:=fun i=>(bj hb5 w.heap.size i (by omega)).trans ((bj hb4 w.heap.size i (by omega)).trans ((bj hb3 w.heap.size i (by omega)).trans ((bj hb2 w.heap.size i (by omega)).trans (hc1 i))))
 have hcc:=fun i=>(bj hb5 w3.heap.size i (by omega)).trans (hc4 i)
 have hfc:=fun i=>(FE hb5 w3.heap.size i (by omega)).trans (hf4 i)
 rw [hq3] at hcc hfc
 rw [hq4] at hc5 hf5
 have lp:w.heap.size<w5.heap.size:=by omega
 have lc:w.heap.size+1+1+1<w5.heap.size:=by omega
 have lf:w.heap.size+1+1+1+1<w5.heap.size:=by omega
 have hZ:=aa (fun (W:World) (hW:Below w5.heap.size w5 W)=>And.intro (aF fun i=>(hW.cell (p:=⟨w.heap.size,i,none⟩) lp).trans (hcp i)) (And.intro (bW fun i=>(hW.cell (p:=⟨w.heap.size+1+1+1,i,none⟩) lc).trans (hcc i)) (And.intro (vv fun i=>(hW.cell (p:=⟨w.heap.size+1+1+1+1,i,none⟩) lf).trans (hc5 i)) (And.intro (fun i=>(hW.frozen (p:=⟨w.heap.size+1+1+1,i,none⟩) lc).trans (hfc i)) (And.intro (fun i=>(hW.frozen (p:=⟨w.heap.size+1+1+1+1,i,none⟩) lf).trans (hf5 i)) (And.intro (Hr lp hW.size) (And.intro (Hr lc hW.size) (And.intro (Hr lf hW.size) (hB5.trans (hW.mono hB5.size))))))))))
 have hMW:=aa (fun (W:World) (hW:Below w5.heap.size w5 W)=>((hB5.trans (hW.mono hB5.size)).cell (p:=⟨0,0,none⟩) hml).trans hm)
 have hlW:=aa (fun (W:World) (hW:Below w5.heap.size w5 W)=>(Hw hB5.size hW.size:w.heap.size≤W.heap.size))
 have hSW:=aa (fun (W:World) (hW:Below w5.heap.size w5 W)=>(hsw.below aG (hB5.trans (hW.mono hB5.size))).more aG (Hw hB5.size hW.size))
 have hml':=aa hml
 replace hs5:=aa hs5
 clear hcp hcc hfc hc1 hc2 hc3 hc4 hc5 hf4 hf5 hb1 hb2 hb3 hb4 hb5 hB5 lp lc lf hq3 hq4 hsw hm hml
 go_enter func29,ntmps29
 go_upto_region 2 with fail
 obtain ⟨w6,hw6,hs6,hb6,hc6,-⟩:=af w5 #[.string xO,.string DC,.string Ek,.string tM] 9
 have hsp:=aa (show Calls prog 62 #[.string DA,.string ⟨#[32]⟩,.int .i64 4] w5 fun e w'=>e=.returned (.slice (some ⟨w5.heap.size,0,none⟩) 4 4)∧w'=w6 from hw6 ▸ C7 mm w5 (hMW.out w5 (Hs _ _)))
 replace hw6:=aa hw6
 go_upto_region 3 with (go_at_call 62;refine hsp.out.mono ?_;rintro e w' ⟨rfl,rfl⟩)
 obtain ⟨w7,hw7,hs7,hb7,hc7,-⟩:=af w' #[.slice (some ⟨w5.heap.size,0,none⟩) 4 4] 28
 have h56:Below w5.heap.size w5 w7:=hb6.trans (hb7.mono (by omega))
 have l5:w5.heap.size<w7.heap.size:=by omega
 have l6:w'.heap.size<w7.heap.size:=by omega
 have hWd:=aa (fun (W:World) (hW:Below w7.heap.size w7 W)=>And.intro (ig fun i=>(hW.cell (p:=⟨w5.heap.size,i,none⟩) l5).trans ((bj hb7 w5.heap.size i (by omega)).trans (hc6 i))) (And.intro ((hW.cell (p:=⟨w'.heap.size,0,none⟩) l6).trans (hc7 0)) (And.intro (Hr l5 hW.size) (And.intro (Hr l6 hW.size) (h56.trans (hW.mono h56.size))))))
 rw [hw7]
 obtain ⟨b13,hb13⟩:∃ b13,b13=w5.heap.size+1:=⟨_,rfl⟩
 rw [hs6,←hb13] at hWd l6
 rw [←hb13]
 replace hs7:=aa hs7
 clear hb6 hb7 hc6 hc7 hsp hw7 hs6
 replace hb13:=aa hb13
 obtain ⟨⟨d0,d1,d2,d3⟩,v13,ld,lv,-⟩:=hWd.out w7 (Hs _ _)
 have hK:=aa (fun (W:World)=>(pH W).mono fun e w' h=>(⟨W.heap.size+1,h.1,h.2.2.2⟩:∃ bw,e=.returned (.agg #[iD,.bool true,dF 71,dE 73 bw,iE,.bool false,dF 74,dE 76 bw,jh,.bool true,dF 77,dE 78 bw])∧Below W.heap.size W w'))
 go_upto_region 4 with (go_at_call 31;refine (hK.out _).mono ?_;rintro e w8 ⟨bw,rfl,hb8⟩)
 obtain ⟨w9,hw9,hs9,hb9,hc9,-⟩:=af w8 #[iD,.bool true,dF 71,dE 73 bw,iE,.bool false,dF 74,dE 76 bw,jh,.bool true,dF 77,dE 78 bw] 102
 rw [hw9]
 have l8:w8.heap.size<w9.heap.size:=by omega
 have h79:Below w7.heap.size w7 w9:=hb8.trans (hb9.mono hb8.size)
 clear d0 d1 d2 d3 v13 ld lv
 obtain ⟨⟨d0,d1,d2,d3⟩,v13,ld,lv,h59⟩:=hWd.out w9 h79
 have hix:=aa (Bf (some ⟨w8.heap.size,0,none⟩) bw b13 w5.heap.size 4 4 w9 (DD l8 hc9) v13 (by decide) d0 lv ld)
 have hAll:=aa (fun (W:World) (hW:Below w9.heap.size w9 W)=>And.intro (fun i=>(hW.cell (p:=⟨w8.heap.size,i,none⟩) l8).trans (hc9 i)) (Hr l8 hW.size))
 obtain ⟨b14,hb14⟩:∃ b14,b14=w8.heap.size:=⟨_,rfl⟩
 rw [←hb14] at hix hAll ⊢
 replace hs9:=aa hs9
 replace hb14:=aa hb14
 clear hc9 hb9 hb8 hw9 l8
 go_upto_region 5 with (go_at_call 63;refine hix.out.mono ?_;rintro e wx ⟨rfl,hbx⟩)
 obtain ⟨w10,rfl⟩:∃ w10:World,w10=wx:=⟨_,rfl⟩
 have h710:Below w7.heap.size w7 w10:=h79.trans (hbx.mono h79.size)
 clear d0 d1 d2 d3 v13 ld lv h59 hix
 obtain ⟨⟨d0,d1,d2,d3⟩,v13,ld,lv,h59⟩:=hWd.out w10 h710
 obtain ⟨kc,lk⟩:=hAll.out w10 hbx
 have k0:=kc 0
 have k1:=kc 1
 have k2:=kc 2
 have k3:=kc 3
 clear kc hbx h79
 go_upto_region 8 with fail
 obtain ⟨w11,hw11,hs11,hb11,hc11,-⟩:=af w10 #[iD,.bool true,dF 71,dE 73 bw] 70
 rw [hw11]
 have l11:w10.heap.size<w11.heap.size:=by omega
 have h711:Below w7.heap.size w7 w11:=h710.trans (hb11.mono h710.size)
 have hKb:=aa (fun (W:World) (hW:Below w11.heap.size w11 W)=>And.intro ((hW.cell (p:=⟨w10.heap.size,0,none⟩) l11).trans (hc11 0)) (And.intro ((hW.cell (p:=⟨w10.heap.size,1,none⟩) l11).trans (hc11 1)) (And.intro ((hW.cell (p:=⟨w10.heap.size,2,none⟩) l11).trans (hc11 2)) (And.intro ((hW.cell (p:=⟨w10.heap.size,3,none⟩) l11).trans (hc11 3)) (Hr l11 hW.size)))))
 have hg16:w5.heap.size≤w10.heap.size:=(h56.trans (h710.mono h56.size)).size
 obtain ⟨b16,hb16⟩:∃ b16,b16=w10.heap.size:=⟨_,rfl⟩
 rw [←hb16] at hKb hg16 ⊢
 replace hs11:=aa hs11
 replace hb16:=aa hb16
 clear hc11 hb11 hw11 l11 h710
 clear d0 d1 d2 d3 v13 ld lv h59 k0 k1 k2 k3 lk
 obtain ⟨⟨d0,d1,d2,d3⟩,v13,ld,lv,h59⟩:=hWd.out w11 h711
 obtain ⟨k0,k1,k2,k3,lk⟩:=hKb.out w11 (Hs _ _)
 have hpc:=aa (fun (W:World)=>En W)
 go_upto_region 20 with (first|(go_at_call 66;refine (hpc.out _).mono ?_;rintro e w12 ⟨rfl,hb12⟩;have h712:=h711.trans (hb12.mono h711.size);clear d0 d1 d2 d3 v13 ld lv h59 k0 k1 k2 k3 lk;obtain ⟨⟨d0,d1,d2,d3⟩,v13,ld,lv,h59⟩:=hWd.out w12 h712;obtain ⟨k0,k1,k2,k3,lk⟩:=hKb.out w12 hb12)|(go_at_call 67;refine (rS ASW cSW _ (hSW.out _ h59)).mono ?_;rintro e w' ⟨rfl,rfl⟩))
 obtain ⟨⟨y0,y1,y2,y3,y4,y5,y6,y7,y8,y9,y10,y11⟩,⟨r0,r1,r2,r3,r4,r5,r6,r7,r8⟩,⟨f0,f1,f2⟩,ff,fg,lp,lc,lf,hB⟩:=hZ.out w12 h59
 have lk5:w.heap.size+1+1+1<w5.heap.size:=(hZ.out w5 (Hs _ _)).2.2.2.2.2.2.1
 replace lk5:=aa lk5
 have hq13:b13≠w.heap.size+1+1+1:=by have:=lk5.out;have:=hb13.out;omega
 have hq5:w5.heap.size≠w.heap.size+1+1+1:=by have:=lk5.out;omega
 have hq0:w.heap.size≠w.heap.size+1+1+1:=by omega
 replace hq13:=aa hq13
 replace hq5:=aa hq5
 replace hq0:=aa hq0
 go_upto_region 21 with fail
 obtain ⟨w13,hw13⟩:∃ w13:World,w13=(((((((((w12.setCell ⟨w.heap.size+1+1+1,0,none⟩ (.int .u8 1)).setCell ⟨w.heap.size+1+1+1,1,none⟩ (.int .i64 0)).setCell ⟨w.heap.size+1+1+1,2,none⟩ (.int .i64 0)).setCell ⟨w.heap.size+1+1+1,3,none⟩ (.int .i64 0)).setCell ⟨w.heap.size+1+1+1,4,none⟩ (.slice none 0 0)).setCell ⟨w.heap.size+1+1+1,5,none⟩ (.int .i64 0)).setCell ⟨w.heap.size+1+1+1,6,none⟩ (.int .i64 0)).setCell ⟨w.heap.size+1+1+1,7,none⟩ (.int .i64 0)).setCell ⟨w.heap.size+1+1+1,8,none⟩ (.slice none 0 0)):=⟨_,rfl⟩
 rw [←hw13]
 have hB13:Below w.heap.size w w13:=hw13 ▸ cI hB (by omega) _ _ _ _ _ _ _ _ _
 have hz13:w13.heap.size=w12.heap.size:=by rw [hw13];simp only [aw]
 obtain ⟨q0,q1,q2,q3,q4,q5,q6,q7,q8⟩:=rU hw13 r0 r1 r2 r3 r4 r5 r6 r7 r8
 have g0:w13.cell? ⟨w.heap.size+1+1+1+1,0,none⟩=some (.int .i64 0):=by rw [hw13,cO (by simp)];exact f0
 have g1:w13.cell? ⟨w.heap.size+1+1+1+1,1,none⟩=some (.int .i64 0):=by rw [hw13,cO (by simp)];exact f1
 have g2:w13.cell? ⟨w.heap.size+1+1+1+1,2,none⟩=some (.int .i64 0):=by rw [hw13,cO (by simp)];exact f2
 have j1:=(show w13.cell? ⟨b16,1,none⟩=w12.cell? ⟨b16,1,none⟩ from by rw [hw13];exact cO (show b16≠w.heap.size+1+1+1 by have:=lk5.out;have:=hg16;omega)).trans k1
 have zf:∀ i,w13.frozen? ⟨w.heap.size+1+1+1,i,none⟩=false:=fun i=>by rw [hw13];simp [go_sem,ff]
 have zg:∀ i,w13.frozen? ⟨w.heap.size+1+1+1+1,i,none⟩=false:=fun i=>by rw [hw13];simp [go_sem,fg]
 have tc:w.heap.size+1+1+1<w13.heap.size:=by omega
 have tf:w.heap.size+1+1+1+1<w13.heap.size:=by omega
 have tk:b16<w13.heap.size:=by omega
 replace hz13:=aa hz13
 replace hw13:=aa hw13
 have hc9:=aa (fun (a:Addr) (h:a.block≠w.heap.size+1+1+1)=>show w13.cell? a=w12.cell? a from by rw [hw13.out];exact cO h)
 have hY13:=aa (show (fun i=>w13.cell? ⟨w.heap.size,i,none⟩)=(fun i=>w12.cell? ⟨w.heap.size,i,none⟩) from funext fun i=>hc9.out _ hq0.out)
 replace y0:=(hc9.out ⟨w.heap.size,0,none⟩ hq0.out).trans y0
 replace y1:=(hc9.out ⟨w.heap.size,1,none⟩ hq0.out).trans y1
 replace y2:=(hc9.out ⟨w.heap.size,2,none⟩ hq0.out).trans y2
 replace y3:=(hc9.out ⟨w.heap.size,3,none⟩ hq0.out).trans y3
 replace y4:=(hc9.out ⟨w.heap.size,4,none⟩ hq0.out).trans y4
 replace y5:=(hc9.out ⟨w.heap.size,5,none⟩ hq0.out).trans y5
 replace y6:=(hc9.out ⟨w.heap.size,6,none⟩ hq0.out).trans y6
 replace y7:=(hc9.out ⟨w.heap.size,7,none⟩ hq0.out).trans y7
 replace y8:=(hc9.out ⟨w.heap.size,8,none⟩ hq0.out).trans y8
 replace y9:=(hc9.out ⟨w.heap.size,9,none⟩ hq0.out).trans y9
 replace y10:=(hc9.out ⟨w.heap.size,10,none⟩ hq0.out).trans y10
 replace y11:=(hc9.out ⟨w.heap.size,11,none⟩ hq0.out).trans y11
 replace d3:=(hc9.out ⟨w5.heap.size,3,none⟩ hq5.out).trans d3
 replace v13:=(hc9.out ⟨b13,0,none⟩ hq13.out).trans v13
 replace ld:w5.heap.size<w13.heap.size:=hz13.out ▸ ld
 replace lv:b13<w13.heap.size:=hz13.out ▸ lv
 replace lp:w.heap.size<w13.heap.size:=hz13.out ▸ lp
 have hRd:=aa (show Calls prog 68 #[.agg (aO A1 A2 A3 A4 A5 A6 A7 A8 A9 A10 A11 A12 p c1 c2 c3 c4 c5 c6 c7 c8 c9 c10 c11 c12),.slice ASW 1 cSW,.string tM] w13 fun e w'=>∃ A,e=.returned (.tuple #[.slice A 1 1,.agg #[.int .i64 0,.int .i64 0,.int .i64 0]])∧Sl 1 em w' w'.heap.size A [[Be]]∧Below w13.heap.size w13 w' from by
  refine (Bp A1 A2 A3 A4 A5 A6 A7 A8 A9 A10 A11 A12 p c1 c2 c3 c4 c5 c6 c7 c8 c9 c10 c11 c12 ASW cSW ub tM rM [[Be]] 100 mm w13 ((hP.out.below hB13).more hB13.size) hmay (by decide) ((hsw0.out.below aG hB13).more aG hB13.size) (by decide) (hV.out.below hB13 (Ht _)) (Hr hml0.out hB13.size) ((hB13.cell (p:=⟨0,0,none⟩) hml0.out).trans hm0.out) Ga ho).mono ?_
  rintro e w' ⟨A,he,-,h2,h3⟩
  exact ⟨A,he,h2,h3⟩)
 have hH:=aa (fun (W:World) (hW:Below w13.heap.size w13 W)=>(⟨⟨(hW.cell (p:=⟨w.heap.size+1+1+1,0,none⟩) tc).trans q0,(hW.cell (p:=⟨w.heap.size+1+1+1,1,none⟩) tc).trans q1,(hW.cell (p:=⟨w.heap.size+1+1+1,2,none⟩) tc).trans q2,(hW.cell (p:=⟨w.heap.size+1+1+1,3,none⟩) tc).trans q3,(hW.cell (p:=⟨w.heap.size+1+1+1,4,none⟩) tc).trans q4,(hW.cell (p:=⟨w.heap.size+1+1+1,5,none⟩) tc).trans q5,(hW.cell (p:=⟨w.heap.size+1+1+1,6,none⟩) tc).trans q6,(hW.cell (p:=⟨w.heap.size+1+1+1,7,none⟩) tc).trans q7,(hW.cell (p:=⟨w.heap.size+1+1+1,8,none⟩) tc).trans q8⟩,⟨(hW.cell (p:=⟨w.heap.size+1+1+1+1,0,none⟩) tf).trans g0,(hW.cell (p:=⟨w.heap.size+1+1+1+1,1,none⟩) tf).trans g1,(hW.cell (p:=⟨w.heap.size+1+1+1+1,2,none⟩) tf).trans g2⟩,fun i=>(hW.frozen (p:=⟨w.heap.size+1+1+1,i,none⟩) tc).trans (zf i),fun i=>(hW.frozen (p:=⟨w.heap.size+1+1+1+1,i,none⟩) tf).trans (zg i),Hr tc hW.size,Hr tf hW.size,hB13.trans (hW.mono hB13.size)⟩:(_∧_∧_∧_∧_∧_∧_∧_∧_)∧(_∧_∧_)∧(∀ i,W.frozen? ⟨w.heap.size+1+1+1,i,none⟩=false)∧(∀ i,W.frozen? ⟨w.heap.size+1+1+1+1,i,none⟩=false)∧_∧_∧_))
 clear hB ff fg f0 f1 f2 r0 r1 r2 r3 r4 r5 r6 r7 r8 k0 k1 k2 k3 lc lf lk d0 d1 d2 hY13 hP hV ho
 go_upto_region 24 with fail
 clear q0 q1 q2 q3 q4 q5 q6 q7 q8 g0 g1 g2 zf zg tc tf j1 tk d3 v13 ld lv hB13
 go_upto_region 25 with (go_at_call 68;refine hRd.out.mono ?_;rintro e w14 ⟨AR,rfl,hsE,hb14⟩)
 obtain ⟨w15,hw15,hs15,hb15,hc15,-⟩:=af w14 #[.int .i64 0,.int .i64 0,.int .i64 0] 60
 rw [hw15]
 have l14:w14.heap.size<w15.heap.size:=by omega
 have h15:Below w13.heap.size w13 w15:=hb14.trans (hb15.mono hb14.size)
 obtain ⟨⟨q0,q1,q2,q3,q4,q5,q6,q7,q8⟩,⟨g0,g1,g2⟩,zf,zg,tc,tf,hB15⟩:=hH.out w15 h15
 have x0:w15.cell? ⟨w14.heap.size,0,none⟩=some (.int .i64 0):=hc15 0
 have x1:w15.cell? ⟨w14.heap.size,1,none⟩=some (.int .i64 0):=hc15 1
 have x2:w15.cell? ⟨w14.heap.size,2,none⟩=some (.int .i64 0):=hc15 2
 obtain ⟨eb,eo,EA,ec,hA,heb,hec,hEl⟩:=(hsE.below bX hb15).ents (i:=0) (by decide)
 obtain ⟨rb,ro,B1,B2,d1,d2,hE2,hrb,e0,e1,e2,e3,e4,e5,-,-⟩:=hEl.ent (i:=0) (by decide)
 subst hA hE2
 have heb':eb<w15.heap.size:=Hr heb hb15.size
 have hrb':rb<w15.heap.size:=Hr hrb hb15.size
 replace hec:w15.cell? ⟨eb,eo,none⟩=some (.slice (some ⟨rb,ro,none⟩) 1 ec):=hec
 replace e0:w15.cell? ⟨rb,ro,none⟩=some (.int .i64 0):=by simpa [Be] using e0
 replace e1:w15.cell? ⟨rb,ro+1,none⟩=some (.slice B1 1 d1):=by simpa [Be] using e1
 replace e2:w15.cell? ⟨rb,ro+2,none⟩=some (.int .i64 4):=by simpa [Be] using e2
 replace e3:w15.cell? ⟨rb,ro+3,none⟩=some (.int .i64 0):=by simpa [Be] using e3
 replace e4:w15.cell? ⟨rb,ro+4,none⟩=some (.int .i64 0):=by simpa [Be] using e4
 replace e5:w15.cell? ⟨rb,ro+5,none⟩=some (.slice B2 1 d2):=by simpa [Be] using e5
 replace hs15:=aa hs15
 clear hsE hEl hc15 hb15 heb hrb hRd
 go_wp2
 go_loopw [26,27,163] (fun _ _ v163 wr=>∃ i:Nat,v163=.int .i64 (i:Int)∧i≤1∧wr=w15) (fun _ _ v163 _=>1-(RowKit.intOf v163).toNat)
 case atStart=>exact ⟨0,rfl,Hz _,rfl⟩
 case round=>
  obtain ⟨i,rfl,hi,rfl⟩:=hrel
  by_cases h0:i<1
  ·obtain rfl:i=0:=by omega
   go_wp2
   go_roundw
   ·exact ⟨1,by go_num,by omega,by trivial⟩
   ·simp [RowKit.intOf]
  ·obtain rfl:i=1:=by omega
   go_upto_region 35 with fail
   obtain ⟨w16,hw16⟩:∃ w16:World,w16=((((((wr.setCell ⟨w.heap.size+1+1+1,3,none⟩ (.int .i64 0)).setCell ⟨w.heap.size+1+1+1,4,none⟩ (.slice B1 1 d1)).setCell ⟨w.heap.size+1+1+1,5,none⟩ (.int .i64 4)).setCell ⟨w.heap.size+1+1+1,6,none⟩ (.int .i64 0)).setCell ⟨w.heap.size+1+1+1,7,none⟩ (.int .i64 0)).setCell ⟨w.heap.size+1+1+1,8,none⟩ (.slice B2 1 d2)):=⟨_,rfl⟩
   rw [←hw16]
   have hle3:w.heap.size≤w.heap.size+1+1+1:=by omega
   have hB16:Below w.heap.size w w16:=hw16 ▸ (((((hB15.setCell (p:=⟨w.heap.size+1+1+1,3,none⟩) hle3 _).setCell (p:=⟨w.heap.size+1+1+1,4,none⟩) hle3 _).setCell (p:=⟨w.heap.size+1+1+1,5,none⟩) hle3 _).setCell (p:=⟨w.heap.size+1+1+1,6,none⟩) hle3 _).setCell (p:=⟨w.heap.size+1+1+1,7,none⟩) hle3 _).setCell (p:=⟨w.heap.size+1+1+1,8,none⟩) hle3 _
   have hz16:w16.heap.size=wr.heap.size:=by rw [hw16];simp only [aw]
   have n0:w16.cell? ⟨w.heap.size+1+1+1,0,none⟩=some (.int .u8 1):=by rw [hw16];simp [go_sem,q0,q1,q2,q3,q4,q5,q6,q7,q8]
   have n1:w16.cell? ⟨w.heap.size+1+1+1,1,none⟩=some (.int .i64 0):=by rw [hw16];simp [go_sem,q0,q1,q2,q3,q4,q5,q6,q7,q8]
   have n2:w16.cell? ⟨w.heap.size+1+1+1,2,none⟩=some (.int .i64 0):=by rw [hw16];simp [go_sem,q0,q1,q2,q3,q4,q5,q6,q7,q8]
   have n3:w16.cell? ⟨w.heap.size+1+1+1,3,none⟩=some (.int .i64 0):=by rw [hw16];simp [go_sem,q0,q1,q2,q3,q4,q5,q6,q7,q8]
   have n4:w16.cell? ⟨w.heap.size+1+1+1,4,none⟩=some (.slice B1 1 d1):=by rw [hw16];simp [go_sem,q0,q1,q2,q3,q4,q5,q6,q7,q8]
   have n5:w16.cell? ⟨w.heap.size+1+1+1,5,none⟩=some (.int .i64 4):=by rw [hw16];simp [go_sem,q0,q1,q2,q3,q4,q5,q6,q7,q8]
   have n6:w16.cell? ⟨w.heap.size+1+1+1,6,none⟩=some (.int .i64 0):=by rw [hw16];simp [go_sem,q0,q1,q2,q3,q4,q5,q6,q7,q8]
   have n7:w16.cell? ⟨w.heap.size+1+1+1,7,none⟩=some (.int .i64 0):=by rw [hw16];simp [go_sem,q0,q1,q2,q3,q4,q5,q6,q7,q8]
   have n8:w16.cell? ⟨w.heap.size+1+1+1,8,none⟩=some (.slice B2 1 d2):=by rw [hw16];simp [go_sem,q0,q1,q2,q3,q4,q5,q6,q7,q8]
   have m0:w16.cell? ⟨w.heap.size+1+1+1+1,0,none⟩=some (.int .i64 0):=by rw [hw16];simp [go_sem,g0,g1,g2]
   have m1:w16.cell? ⟨w.heap.size+1+1+1+1,1,none⟩=some (.int .i64 0):=by rw [hw16];simp [go_sem,g0,g1,g2]
   have m2:w16.cell? ⟨w.heap.size+1+1+1+1,2,none⟩=some (.int .i64 0):=by rw [hw16];simp [go_sem,g0,g1,g2]
   have nf:∀ i,w16.frozen? ⟨w.heap.size+1+1+1,i,none⟩=false:=fun i=>by rw [hw16];simp [go_sem,zf]
   have mf:∀ i,w16.frozen? ⟨w.heap.size+1+1+1+1,i,none⟩=false:=fun i=>by rw [hw16];simp [go_sem,zg]
   have tn:w.heap.size+1+1+1<w16.heap.size:=by omega
   have tm:w.heap.size+1+1+1+1<w16.heap.size:=by omega
   replace hz16:=aa hz16
   replace hw16:=aa hw16
   clear q0 q1 q2 q3 q4 q5 q6 q7 q8 g0 g1 g2 zf zg tc tf e0 e1 e2 e3 e4 e5 x0 x1 x2 hec hB15
   go_region
   all_goals go_wp2
   all_goals refine bodyPost_ret (v:=.tuple #[.agg #[.int .u8 1,.int .i64 0,.int .i64 0,.int .i64 0,.slice B1 1 d1,.int .i64 4,.int .i64 0,.int .i64 0,.slice B2 1 d2],.agg #[.int .i64 0,.int .i64 0,.int .i64 0]]) (by simp [results,results29,go_sem,n0,n1,n2,n3,n4,n5,n6,n7,n8,m0,m1,m2,nf,mf,tn,tm]) rfl ⟨B1,1,d1,B2,1,d2,rfl,?_⟩
   all_goals repeat (first|(with_reducible exact hB16)|(with_reducible refine Below.drew ?_)|(with_reducible refine Below.setCell ?_ (by simp<;>omega) _))
end Go.Proofs.YtijcdfdbkffiaaaGreatDoor

import Derived.Test.YtiebolhmdhdagaaGreatDoorEwp06
set_option linter.all false
set_option maxHeartbeats 8000000
set_option maxRecDepth 100000
open Go.Proofs.Tryz
namespace Go.Proofs.YtiebolhmdhdagaaGreatDoor
open _root_.Nat renaming lt_of_lt_of_le→He, le_refl→Hh, le_trans→Hj, zero_le→Hm, le_of_lt→Hs
open _root_.Go.RowKit.Below renaming refl→Hf
open _root_.List renaming length_take→HF, getElem?_toArray→HH, getElem?_cons_zero→HK, getElem?_cons_succ→HM, mem_map→HN
open _root_.Array renaming getElem?_eq_some_iff→If
open Go.RowKit
theorem rX (s:ByteArray) (w:World) (hs:s.size≤maxLen):
  Calls prog 88 #[.string s] w fun e w'=>e=.returned (.int .i64 (di s 0))∧w'=w:=by
 have hl:s.size≤9223372036854775807:=hs
 go_enter func88,ntmps88
 go_wp2
 go_loop [3,5] (fun i _=>∃ k:Nat,k≤s.size∧i=.int .i64 k∧di s k=di s 0) (fun i _=>s.size-(intOf i).toNat)
 case atStart=>exact ⟨0,Hm _,rfl,rfl⟩
 case round=>
  obtain ⟨k,hk,rfl,hg⟩:=hrel
  by_cases hlt:k<s.size
  ·have hkz:(k:Int)<(s.size:Int):=by omega
   have hP:=fun W=>Tryz.strings_HasPrefix (s.extract k s.size) ⟨#[47,47]⟩ W
   rw [jg] at hP
   have hI:=fun W=>Tryz.strings_IndexByte (s.extract k s.size) 10 W
   rw [jg] at hI
   generalize hp:Lib.hasPrefix (s.data.toList.drop k) [47,47]=pb at hP
   generalize hi:Lib.indexByte (s.data.toList.drop k) (10:Int).toNat.toUInt8=ib at hI
   replace hp:=aa hp
   replace hi:=aa hi
   cases pb with
   |false=>
    go_wp2_with (go_at_call 141;refine (hP _).mono ?_;rintro e w' ⟨rfl,rfl⟩)
    all_goals try simp only [beq_iff_eq,beq_eq_false_iff_ne,ne_eq] at*
    all_goals first
     | (have hw:lG s[k]=true:=(my _).2 (by omega)
        go_round
        case rel=>exact ⟨k+1,by omega,by go_num,(mw hlt hw).trans hg⟩
        case measure=>simp [intOf];omega)
     | (have hw:lG s[k]=false:=by rw [←Bool.not_eq_true,my];omega
        go_ret
        rw [show di s 0=k from hg.symm.trans (tZ hlt hw hp.out)]
        exact ⟨rfl,rfl⟩)
   |true=>
    by_cases hin:ib= -1
    ·subst hin
     have hz:(-1:Int)<0:=by omega
     go_wp2_with (first
      |(go_at_call 141;refine (hP _).mono ?_;rintro e w' ⟨rfl,rfl⟩)
      |(go_at_call 142;refine (hI _).mono ?_;rintro e w' ⟨rfl,rfl⟩))
     all_goals try simp only [beq_iff_eq,beq_eq_false_iff_ne,ne_eq] at*
     all_goals first
      | (have hw:lG s[k]=true:=(my _).2 (by omega)
         go_round
         case rel=>exact ⟨k+1,by omega,by go_num,(mw hlt hw).trans hg⟩
         case measure=>simp [intOf];omega)
      | (go_ret
         rw [show di s 0=s.size from hg.symm.trans (wU (Hs hlt) hp.out hi.out)]
         exact ⟨rfl,rfl⟩)
    ·obtain ⟨n,hn1,hn2,hn3,hn4⟩:=ua (Hs hlt) hp.out (show Lib.indexByte (s.data.toList.drop k) 10≠ -1 from fun e=>hin (hi.out.symm.trans e))
     have hib:ib=(n:Int):=hi.out.symm.trans hn1
     subst hib
     have hz:¬((n:Int)<0):=by omega
     replace hn1:=aa hn1
     go_wp2_with (first
      |(go_at_call 141;refine (hP _).mono ?_;rintro e w' ⟨rfl,rfl⟩)
      |(go_at_call 142;refine (hI _).mono ?_;rintro e w' ⟨rfl,rfl⟩))
     all_goals try simp only [beq_iff_eq,beq_eq_false_iff_ne,ne_eq] at*
     all_goals first
      | (have hw:lG s[k]=true:=(my _).2 (by omega)
         go_round
         case rel=>exact ⟨k+1,by omega,by go_num,(mw hlt hw).trans hg⟩
         case measure=>simp [intOf];omega)
      | (go_round
         case rel=>exact ⟨k+n,by omega,by go_num,hn4.trans hg⟩
         case measure=>simp [intOf];omega)
  ·have he:=wT hlt
   go_wp2
   go_ret
   rw [show di s 0=k from hg.symm.trans he]
   exact ⟨rfl,rfl⟩
section
abbrev xD (n:Int):Ending:=.panicked [{ v:=.iface 43 (.int .i64 n),recovered:=false}]
attribute [local go_sem] run_panic_iface
theorem AA (s:ByteArray) (w:World) (h0:0<s.size):
  Calls prog 143 #[.string s] w fun e w'=>w'=w∧((aD s.data.toList= []∧e=xD 4)∨(∃ m:ByteArray,m.data.toList=aD s.data.toList∧aD s.data.toList≠ []∧e=.returned (.string m))):=by
 have hz:(0:Int)<(s.size:Int):=by omega
 have h1:(1:Int)≤(s.size:Int):=by omega
 have h1n:1≤s.size:=h0
 have hP:=aa (fun p W=>Tryz.strings_HasPrefix s p W)
 have hC:=aa (fun W=>Tryz.strings_Contains_one ⟨#[123,125,40,41,91,93,59,58,44,61,60,62,43,45,38,124,94,126,33,46,47]⟩ s[0] W)
 rw [←vu h0] at hC
 go_enter func143,ntmps143
 go_wp2
 go_loop [4,6] (fun _ i=>∃ k:Nat,k≤11∧i=.int .i64 k∧Hid (aH (ax.drop k) s.data.toList=aD s.data.toList)) (fun _ i=>11-(intOf i).toNat)
 case atStart=>exact ⟨0,Hm _,rfl,aa rfl⟩
 case round=>
  obtain ⟨k,hk,rfl,hm⟩:=hrel
  by_cases hlt:k<11
  ·rcases (show k=0∨k=1∨k=2∨k=3∨k=4∨k=5∨k=6∨k=7∨k=8∨k=9∨k=10 from by omega) with rfl|rfl|rfl|rfl|rfl|rfl|rfl|rfl|rfl|rfl|rfl
   ·have hx:∀ W,(Instr.index 213 (.agg #[.string ⟨#[38,38,38]⟩,.string ⟨#[61,61]⟩,.string ⟨#[33,61]⟩,.string ⟨#[60,61]⟩,.string ⟨#[62,61]⟩,.string ⟨#[60,60]⟩,.string ⟨#[62,62]⟩,.string ⟨#[38,38]⟩,.string ⟨#[124,124]⟩,.string ⟨#[43,43]⟩,.string ⟨#[45,62]⟩]) (.int .i64 0)).run prog W=.ok (.string ⟨#[38,38,38]⟩) W:=fun _=>by kernel_rfl
    have hm1:=aa (show (if Lib.hasPrefix s.data.toList [38,38,38] then [38,38,38] else aH (ax.drop 1) s.data.toList)=aD s.data.toList from hm.out)
    cases hb:Lib.hasPrefix s.data.toList [38,38,38] with
    |true=>
     have hq:=fun W=>hP.out ⟨#[38,38,38]⟩ W
     simp only [hb] at hq
     have he:aD s.data.toList= [38,38,38]:=by rw [←hm1.out,hb];rfl
     replace he:=aa he
     replace hb:=aa hb
     go_wp2_with (go_at_call 141;refine (hq _).mono ?_;rintro e w' ⟨rfl,rfl⟩)
     go_ret
     exact ⟨rfl,.inr ⟨⟨#[38,38,38]⟩,he.out.symm,by rw [he.out];simp,rfl⟩⟩
    |false=>
     have hq:=fun W=>hP.out ⟨#[38,38,38]⟩ W
     simp only [hb] at hq
     have he:aH (ax.drop 1) s.data.toList=aD s.data.toList:=by rw [←hm1.out,hb];rfl
     replace he:=aa he
     replace hb:=aa hb
     go_wp2_with (go_at_call 141;refine (hq _).mono ?_;rintro e w' ⟨rfl,rfl⟩)
     go_round
     case rel=>exact ⟨1,by omega,rfl,he⟩
     case measure=>simp [intOf]
   ·have hx:∀ W,(Instr.index 213 (.agg #[.string ⟨#[38,38,38]⟩,.string ⟨#[61,61]⟩,.string ⟨#[33,61]⟩,.string ⟨#[60,61]⟩,.string ⟨#[62,61]⟩,.string ⟨#[60,60]⟩,.string ⟨#[62,62]⟩,.string ⟨#[38,38]⟩,.string ⟨#[124,124]⟩,.string ⟨#[43,43]⟩,.string ⟨#[45,62]⟩]) (.int .i64 1)).run prog W=.ok (.string ⟨#[61,61]⟩) W:=fun _=>by kernel_rfl
    have hm1:=aa (show (if Lib.hasPrefix s.data.toList [61,61] then [61,61] else aH (ax.drop 2) s.data.toList)=aD s.data.toList from hm.out)
    cases hb:Lib.hasPrefix s.data.toList [61,61] with
    |true=>
     have hq:=fun W=>hP.out ⟨#[61,61]⟩ W
     simp only [hb] at hq
     have he:aD s.data.toList= [61,61]:=by rw [←hm1.out,hb];rfl
     replace he:=aa he
     replace hb:=aa hb
     go_wp2_with (go_at_call 141;refine (hq _).mono ?_;rintro e w' ⟨rfl,rfl⟩)
     go_ret
     exact ⟨rfl,.inr ⟨⟨#[61,61]⟩,he.out.symm,by rw [he.out];simp,rfl⟩⟩
    |false=>
     have hq:=fun W=>hP.out ⟨#[61,61]⟩ W
     simp only [hb] at hq
     have he:aH (ax.drop 2) s.data.toList=aD s.data.toList:=by rw [←hm1.out,hb];rfl
     replace he:=aa he
     replace hb:=aa hb
     go_wp2_with (go_at_call 141;refine (hq _).mono ?_;rintro e w' ⟨rfl,rfl⟩)
     go_round
     case rel=>exact ⟨2,by omega,rfl,he⟩
     case measure=>simp [intOf]
   ·have hx:∀ W,(Instr.index 213 (.agg #[.string ⟨#[38,38,38]⟩,.string ⟨#[61,61]⟩,.string ⟨#[33,61]⟩,.string ⟨#[60,61]⟩,.string ⟨#[62,61]⟩,.string ⟨#[60,60]⟩,.string ⟨#[62,62]⟩,.string ⟨#[38,38]⟩,.string ⟨#[124,124]⟩,.string ⟨#[43,43]⟩,.string ⟨#[45,62]⟩]) (.int .i64 2)).run prog W=.ok (.string ⟨#[33,61]⟩) W:=fun _=>by kernel_rfl
    have hm1:=aa (show (if Lib.hasPrefix s.data.toList [33,61] then [33,61] else aH (ax.drop 3) s.data.toList)=aD s.data.toList from hm.out)
    cases hb:Lib.hasPrefix s.data.toList [33,61] with
    |true=>
     have hq:=fun W=>hP.out ⟨#[33,61]⟩ W
     simp only [hb] at hq
     have he:aD s.data.toList= [33,61]:=by rw [←hm1.out,hb];rfl
     replace he:=aa he
     replace hb:=aa hb
     go_wp2_with (go_at_call 141;refine (hq _).mono ?_;rintro e w' ⟨rfl,rfl⟩)
     go_ret
     exact ⟨rfl,.inr ⟨⟨#[33,61]⟩,he.out.symm,by rw [he.out];simp,rfl⟩⟩
    |false=>
     have hq:=fun W=>hP.out ⟨#[33,61]⟩ W
     simp only [hb] at hq
     have he:aH (ax.drop 3) s.data.toList=aD s.data.toList:=by rw [←hm1.out,hb];rfl
     replace he:=aa he
     replace hb:=aa hb
     go_wp2_with (go_at_call 141;refine (hq _).mono ?_;rintro e w' ⟨rfl,rfl⟩)
     go_round
     case rel=>exact ⟨3,by omega,rfl,he⟩
     case measure=>simp [intOf]
   ·have hx:∀ W,(Instr.index 213 (.agg #[.string ⟨#[38,38,38]⟩,.string ⟨#[61,61]⟩,.string ⟨#[33,61]⟩,.string ⟨#[60,61]⟩,.string ⟨#[62,61]⟩,.string ⟨#[60,60]⟩,.string ⟨#[62,62]⟩,.string ⟨#[38,38]⟩,.string ⟨#[124,124]⟩,.string ⟨#[43,43]⟩,.string ⟨#[45,62]⟩]) (.int .i64 3)).run prog W=.ok (.string ⟨#[60,61]⟩) W:=fun _=>by kernel_rfl
    have hm1:=aa (show (if Lib.hasPrefix s.data.toList [60,61] then [60,61] else aH (ax.drop 4) s.data.toList)=aD s.data.toList from hm.out)
    cases hb:Lib.hasPrefix s.data.toList [60,61] with
    |true=>
     have hq:=fun W=>hP.out ⟨#[60,61]⟩ W
     simp only [hb] at hq
     have he:aD s.data.toList= [60,61]:=by rw [←hm1.out,hb];rfl
     replace he:=aa he
     replace hb:=aa hb
     go_wp2_with (go_at_call 141;refine (hq _).mono ?_;rintro e w' ⟨rfl,rfl⟩)
     go_ret
     exact ⟨rfl,.inr ⟨⟨#[60,61]⟩,he.out.symm,by rw [he.out];simp,rfl⟩⟩
    |false=>
     have hq:=fun W=>hP.out ⟨#[60,61]⟩ W
     simp only [hb] at hq
     have he:aH (ax.drop 4) s.data.toList=aD s.data.toList:=by rw [←hm1.out,hb];rfl
     replace he:=aa he
     replace hb:=aa hb
     go_wp2_with (go_at_call 141;refine (hq _).mono ?_;rintro e w' ⟨rfl,rfl⟩)
     go_round
     case rel=>exact ⟨4,by omega,rfl,he⟩
     case measure=>simp [intOf]
   ·have hx:∀ W,(Instr.index 213 (.agg #[.string ⟨#[38,38,38]⟩,.string ⟨#[61,61]⟩,.string ⟨#[33,61]⟩,.string ⟨#[60,61]⟩,.string ⟨#[62,61]⟩,.string ⟨#[60,60]⟩,.string ⟨#[62,62]⟩,.string ⟨#[38,38]⟩,.string ⟨#[124,124]⟩,.string ⟨#[43,43]⟩,.string ⟨#[45,62]⟩]) (.int .i64 4)).run prog W=.ok (.string ⟨#[62,61]⟩) W:=fun _=>by kernel_rfl
    have hm1:=aa (show (if Lib.hasPrefix s.data.toList [62,61] then [62,61] else aH (ax.drop 5) s.data.toList)=aD s.data.toList from hm.out)
    cases hb:Lib.hasPrefix s.data.toList [62,61] with
    |true=>
     have hq:=fun W=>hP.out ⟨#[62,61]⟩ W
     simp only [hb] at hq
     have he:aD s.data.toList= [62,61]:=by rw [←hm1.out,hb];rfl
     replace he:=aa he
     replace hb:=aa hb
     go_wp2_with (go_at_call 141;refine (hq _).mono ?_;rintro e w' ⟨rfl,rfl⟩)
     go_ret
     exact ⟨rfl,.inr ⟨⟨#[62,61]⟩,he.out.symm,by rw [he.out];simp,rfl⟩⟩
    |false=>
     have hq:=fun W=>hP.out ⟨#[62,61]⟩ W
     simp only [hb] at hq
     have he:aH (ax.drop 5) s.data.toList=aD s.data.toList:=by rw [←hm1.out,hb];rfl
     replace he:=aa he
     replace hb:=aa hb
     go_wp2_with (go_at_call 141;refine (hq _).mono ?_;rintro e w' ⟨rfl,rfl⟩)
     go_round
     case rel=>exact ⟨5,by omega,rfl,he⟩
     case measure=>simp [intOf]
   ·have hx:∀ W,(Instr.index 213 (.agg #[.string ⟨#[38,38,38]⟩,.string ⟨#[61,61]⟩,.string ⟨#[33,61]⟩,.string ⟨#[60,61]⟩,.string ⟨#[62,61]⟩,.string ⟨#[60,60]⟩,.string ⟨#[62,62]⟩,.string ⟨#[38,38]⟩,.string ⟨#[124,124]⟩,.string ⟨#[43,43]⟩,.string ⟨#[45,62]⟩]) (.int .i64 5)).run prog W=.ok (.string ⟨#[60,60]⟩) W:=fun _=>by kernel_rfl
    have hm1:=aa (show (if Lib.hasPrefix s.data.toList [60,60] then [60,60] else aH (ax.drop 6) s.data.toList)=aD s.data.toList from hm.out)
    cases hb:Lib.hasPrefix s.data.toList [60,60] with
    |true=>
     have hq:=fun W=>hP.out ⟨#[60,60]⟩ W
     simp only [hb] at hq
     have he:aD s.data.toList= [60,60]:=by rw [←hm1.out,hb];rfl
     replace he:=aa he
     replace hb:=aa hb
     go_wp2_with (go_at_call 141;refine (hq _).mono ?_;rintro e w' ⟨rfl,rfl⟩)
     go_ret
     exact ⟨rfl,.inr ⟨⟨#[60,60]⟩,he.out.symm,by rw [he.out];simp,rfl⟩⟩
    |false=>
     have hq:=fun W=>hP.out ⟨#[60,60]⟩ W
     simp only [hb] at hq
     have he:aH (ax.drop 6) s.data.toList=aD s.data.toList:=by rw [←hm1.out,hb];rfl
     replace he:=aa he
     replace hb:=aa hb
     go_wp2_with (go_at_call 141;refine (hq _).mono ?_;rintro e w' ⟨rfl,rfl⟩)
     go_round
     case rel=>exact ⟨6,by omega,rfl,he⟩
     case measure=>simp [intOf]
   ·have hx:∀ W,(Instr.index 213 (.agg #[.string ⟨#[38,38,38]⟩,.string ⟨#[61,61]⟩,.string ⟨#[33,61]⟩,.string ⟨#[60,61]⟩,.string ⟨#[62,61]⟩,.string ⟨#[60,60]⟩,.string ⟨#[62,62]⟩,.string ⟨#[38,38]⟩,.string ⟨#[124,124]⟩,.string ⟨#[43,43]⟩,.string ⟨#[45,62]⟩]) (.int .i64 6)).run prog W=.ok (.string ⟨#[62,62]⟩) W:=fun _=>by kernel_rfl
    have hm1:=aa (show (if Lib.hasPrefix s.data.toList [62,62] then [62,62] else aH (ax.drop 7) s.data.toList)=aD s.data.toList from hm.out)
    cases hb:Lib.hasPrefix s.data.toList [62,62] with
    |true=>
     have hq:=fun W=>hP.out ⟨#[62,62]⟩ W
     simp only [hb] at hq
     have he:aD s.data.toList= [62,62]:=by rw [←hm1.out,hb];rfl
     replace he:=aa he
     replace hb:=aa hb
     go_wp2_with (go_at_call 141;refine (hq _).mono ?_;rintro e w' ⟨rfl,rfl⟩)
     go_ret
     exact ⟨rfl,.inr ⟨⟨#[62,62]⟩,he.out.symm,by rw [he.out];simp,rfl⟩⟩
    |false=>
     have hq:=fun W=>hP.out ⟨#[62,62]⟩ W
     simp only [hb] at hq
     have he:aH (ax.drop 7) s.data.toList=aD s.data.toList:=by rw [←hm1.out,hb];rfl
     replace he:=aa he
     replace hb:=aa hb
     go_wp2_with (go_at_call 141;refine (hq _).mono ?_;rintro e w' ⟨rfl,rfl⟩)
     go_round
     case rel=>exact ⟨7,by omega,rfl,he⟩
     case measure=>simp [intOf]
   ·have hx:∀ W,(Instr.index 213 (.agg #[.string ⟨#[38,38,38]⟩,.string ⟨#[61,61]⟩,.string ⟨#[33,61]⟩,.string ⟨#[60,61]⟩,.string ⟨#[62,61]⟩,.string ⟨#[60,60]⟩,.string ⟨#[62,62]⟩,.string ⟨#[38,38]⟩,.string ⟨#[124,124]⟩,.string ⟨#[43,43]⟩,.string ⟨#[45,62]⟩]) (.int .i64 7)).run prog W=.ok (.string ⟨#[38,38]⟩) W:=fun _=>by kernel_rfl
    have hm1:=aa (show (if Lib.hasPrefix s.data.toList [38,38] then [38,38] else aH (ax.drop 8) s.data.toList)=aD s.data.toList from hm.out)
    cases hb:Lib.hasPrefix s.data.toList [38,38] with
    |true=>
     have hq:=fun W=>hP.out ⟨#[38,38]⟩ W
     simp only [hb] at hq
     have he:aD s.data.toList= [38,38]:=by rw [←hm1.out,hb];rfl
     replace he:=aa he
     replace hb:=aa hb
     go_wp2_with (go_at_call 141;refine (hq _).mono ?_;rintro e w' ⟨rfl,rfl⟩)
     go_ret
     exact ⟨rfl,.inr ⟨⟨#[38,38]⟩,he.out.symm,by rw [he.out];simp,rfl⟩⟩
    |false=>
     have hq:=fun W=>hP.out ⟨#[38,38]⟩ W
     simp only [hb] at hq
     have he:aH (ax.drop 8) s.data.toList=aD s.data.toList:=by rw [←hm1.out,hb];rfl
     replace he:=aa he
     replace hb:=aa hb
     go_wp2_with (go_at_call 141;refine (hq _).mono ?_;rintro e w' ⟨rfl,rfl⟩)
     go_round
     case rel=>exact ⟨8,by omega,rfl,he⟩
     case measure=>simp [intOf]
   ·have hx:∀ W,(Instr.index 213 (.agg #[.string ⟨#[38,38,38]⟩,.string ⟨#[61,61]⟩,.string ⟨#[33,61]⟩,.string ⟨#[60,61]⟩,.string ⟨#[62,61]⟩,.string ⟨#[60,60]⟩,.string ⟨#[62,62]⟩,.string ⟨#[38,38]⟩,.string ⟨#[124,124]⟩,.string ⟨#[43,43]⟩,.string ⟨#[45,62]⟩]) (.int .i64 8)).run prog W=.ok (.string ⟨#[124,124]⟩) W:=fun _=>by kernel_rfl
    have hm1:=aa (show (if Lib.hasPrefix s.data.toList [124,124] then [124,124] else aH (ax.drop 9) s.data.toList)=aD s.data.toList from hm.out)
    cases hb:Lib.hasPrefix s.data.toList [124,124] with
    |true=>
     have hq:=fun W=>hP.out ⟨#[124,124]⟩ W
     simp only [hb] at hq
     have he:aD s.data.toList= [124,124]:=by rw [←hm1.out,hb];rfl
     replace he:=aa he
     replace hb:=aa hb
     go_wp2_with (go_at_call 141;refine (hq _).mono ?_;rintro e w' ⟨rfl,rfl⟩)
     go_ret
     exact ⟨rfl,.inr ⟨⟨#[124,124]⟩,he.out.symm,by rw [he.out];simp,rfl⟩⟩
    |false=>
     have hq:=fun W=>hP.out ⟨#[124,124]⟩ W
     simp only [hb] at hq
     have he:aH (ax.drop 9) s.data.toList=aD s.data.toList:=by rw [←hm1.out,hb];rfl
     replace he:=aa he
     replace hb:=aa hb
     go_wp2_with (go_at_call 141;refine (hq _).mono ?_;rintro e w' ⟨rfl,rfl⟩)
     go_round
     case rel=>exact ⟨9,by omega,rfl,he⟩
     case measure=>simp [intOf]
   ·have hx:∀ W,(Instr.index 213 (.agg #[.string ⟨#[38,38,38]⟩,.string ⟨#[61,61]⟩,.string ⟨#[33,61]⟩,.string ⟨#[60,61]⟩,.string ⟨#[62,61]⟩,.string ⟨#[60,60]⟩,.string ⟨#[62,62]⟩,.string ⟨#[38,38]⟩,.string ⟨#[124,124]⟩,.string ⟨#[43,43]⟩,.string ⟨#[45,62]⟩]) (.int .i64 9)).run prog W=.ok (.string ⟨#[43,43]⟩) W:=fun _=>by kernel_rfl
    have hm1:=aa (show (if Lib.hasPrefix s.data.toList [43,43] then [43,43] else aH (ax.drop 10) s.data.toList)=aD s.data.toList from hm.out)
    cases hb:Lib.hasPrefix s.data.toList [43,43] with
    |true=>
     have hq:=fun W=>hP.out ⟨#[43,43]⟩ W
     simp only [hb] at hq
     have he:aD s.data.toList= [43,43]:=by rw [←hm1.out,hb];rfl
     replace he:=aa he
     replace hb:=aa hb
     go_wp2_with (go_at_call 141;refine (hq _).mono ?_;rintro e w' ⟨rfl,rfl⟩)
     go_ret
     exact ⟨rfl,.inr ⟨⟨#[43,43]⟩,he.out.symm,by rw [he.out];simp,rfl⟩⟩
    |false=>
     have hq:=fun W=>hP.out ⟨#[43,43]⟩ W
     simp only [hb] at hq
     have he:aH (ax.drop 10) s.data.toList=aD s.data.toList:=by rw [←hm1.out,hb];rfl
     replace he:=aa he
     replace hb:=aa hb
     go_wp2_with (go_at_call 141;refine (hq _).mono ?_;rintro e w' ⟨rfl,rfl⟩)
     go_round
     case rel=>exact ⟨10,by omega,rfl,he⟩
     case measure=>simp [intOf]
   ·have hx:∀ W,(Instr.index 213 (.agg #[.string ⟨#[38,38,38]⟩,.string ⟨#[61,61]⟩,.string ⟨#[33,61]⟩,.string ⟨#[60,61]⟩,.string ⟨#[62,61]⟩,.string ⟨#[60,60]⟩,.string ⟨#[62,62]⟩,.string ⟨#[38,38]⟩,.string ⟨#[124,124]⟩,.string ⟨#[43,43]⟩,.string ⟨#[45,62]⟩]) (.int .i64 10)).run prog W=.ok (.string ⟨#[45,62]⟩) W:=fun _=>by kernel_rfl
    have hm1:=aa (show (if Lib.hasPrefix s.data.toList [45,62] then [45,62] else aH (ax.drop 11) s.data.toList)=aD s.data.toList from hm.out)
    cases hb:Lib.hasPrefix s.data.toList [45,62] with
    |true=>
     have hq:=fun W=>hP.out ⟨#[45,62]⟩ W
     simp only [hb] at hq
     have he:aD s.data.toList= [45,62]:=by rw [←hm1.out,hb];rfl
     replace he:=aa he
     replace hb:=aa hb
     go_wp2_with (go_at_call 141;refine (hq _).mono ?_;rintro e w' ⟨rfl,rfl⟩)
     go_ret
     exact ⟨rfl,.inr ⟨⟨#[45,62]⟩,he.out.symm,by rw [he.out];simp,rfl⟩⟩
    |false=>
     have hq:=fun W=>hP.out ⟨#[45,62]⟩ W
     simp only [hb] at hq
     have he:aH (ax.drop 11) s.data.toList=aD s.data.toList:=by rw [←hm1.out,hb];rfl
     replace he:=aa he
     replace hb:=aa hb
     go_wp2_with (go_at_call 141;refine (hq _).mono ?_;rintro e w' ⟨rfl,rfl⟩)
     go_round
     case rel=>exact ⟨11,by omega,rfl,he⟩
     case measure=>simp [intOf]
  ·have hke:k=11:=by omega
   subst hke
   have hm2:(if 0≤Lib.indexByte cK s[0] then s.data.toList.take 1 else [])=aD s.data.toList:=by rw [←hm.out,←vv h0];rfl
   have hne:s.data.toList.take 1≠ []:=by rw [←gL,vu h0];simp
   have hC':Hid (∀ W,Calls prog 132 #[.string ⟨#[123,125,40,41,91,93,59,58,44,61,60,62,43,45,38,124,94,126,33,46,47]⟩,.string (s.extract 0 1)] W fun e w'=>e=.returned (.bool (decide (0≤Lib.indexByte cK s[0])))∧w'=W):=hC
   by_cases hin:0≤Lib.indexByte cK s[0]
   ·rw [if_pos hin] at hm2
    rw [decide_eq_true hin] at hC'
    replace hin:=aa hin
    replace hm2:=aa hm2
    go_wp2_with (go_at_call 132;refine (hC'.out _).mono ?_;rintro e w' ⟨rfl,rfl⟩)
    go_ret
    exact ⟨rfl,.inr ⟨s.extract 0 1,by rw [gL,hm2.out],by rw [←hm2.out];exact hne,rfl⟩⟩
   ·rw [if_neg hin] at hm2
    rw [decide_eq_false hin] at hC'
    replace hin:=aa hin
    replace hm2:=aa hm2
    go_wp2_with (go_at_call 132;refine (hC'.out _).mono ?_;rintro e w' ⟨rfl,rfl⟩)
    exact ⟨rfl,rfl,.inl ⟨hm2.out.symm,rfl⟩⟩
end
def kx:Except Int Nat→Value
 | .ok v=>.tuple #[.agg #[.int .u64 ((v / 18446744073709551616:Nat):Int),.int .u64 ((v % 18446744073709551616:Nat):Int)],.int .i64 0]
 | .error n=>.tuple #[.agg #[.int .u64 0,.int .u64 0],.int .i64 n]
structure dx (W:World) (g:Nat) (x y:Int):Prop where
 lt:g<W.heap.size
 c0:W.cell? ⟨g,0,none⟩=some (.int .u64 x)
 c1:W.cell? ⟨g,1,none⟩=some (.int .u64 y)
 f0:W.frozen? ⟨g,0,none⟩=false
 f1:W.frozen? ⟨g,1,none⟩=false
theorem dx.below {W W':World} {g B:Nat} {x y:Int} (h:dx W g x y) (hb:Below B W W') (hg:g<B):dx W' g x y:=
 ⟨He h.lt hb.size,(hb.cell (p:=⟨g,0,none⟩) hg).trans h.c0,(hb.cell (p:=⟨g,1,none⟩) hg).trans h.c1,(hb.frozen (p:=⟨g,0,none⟩) hg).trans h.f0,(hb.frozen (p:=⟨g,1,none⟩) hg).trans h.f1⟩
theorem dx.new (W:World) (x y:Int) (t:TypeId):dx (W.alloc (.cells #[.int .u64 x,.int .u64 y] t)) W.heap.size x y:=by
 obtain ⟨wa,hwa,hsa,hba,hca,hfa⟩:=ak W #[.int .u64 x,.int .u64 y] t
 rw [hwa]
 exact ⟨by omega,hca 0,hca 1,hfa 0,hfa 1⟩
theorem dx.alloc {W:World} {g:Nat} {x y:Int} (h:dx W g x y) (o:Obj):dx (W.alloc o) g x y:=h.below ((Hf _ _).alloc (Hh _) o) h.lt
theorem an (W:World) (a:Addr) (v:Value):(W.setCell a v).heap.size=W.heap.size:=by simp [World.setCell]
theorem dx.far {W:World} {g k i:Nat} {x y:Int} (h:dx W g x y) (v:Value) (hk:k≠g):dx (W.setCell ⟨k,i,none⟩ v) g x y:=by
 have hh:(W.setCell ⟨k,i,none⟩ v).heap[g]? =W.heap[g]? :=Below.heap_setCell _ _ _ _ (fun e=>hk e.symm)
 refine ⟨by rw [an];exact h.lt,?_,?_,?_,?_⟩
 ·rw [←h.c0];unfold World.cell?;rw [hh]
 ·rw [←h.c1];unfold World.cell?;rw [hh]
 ·rw [←h.f0];unfold World.frozen?;rw [hh]
 ·rw [←h.f1];unfold World.frozen?;rw [hh]
theorem dx.set {W:World} {g:Nat} {x y:Int} (h:dx W g x y) (x' y':Int):dx ((W.setCell ⟨g,0,none⟩ (.int .u64 x')).setCell ⟨g,1,none⟩ (.int .u64 y')) g x' y':=by
 obtain ⟨hl,c0,c1,f0,f1⟩:=h
 refine ⟨by rw [an,an];exact hl,?_,?_,?_,?_⟩<;>simp [go_sem,c0,c1,f0,f1]
structure gV (W:World) (g:Nat) (x y:Int):Prop where
 lt:g<W.heap.size
 c0:W.cell? ⟨g,0,none⟩=some (.int .i64 x)
 c1:W.cell? ⟨g,1,none⟩=some (.int .i64 y)
 f0:W.frozen? ⟨g,0,none⟩=false
 f1:W.frozen? ⟨g,1,none⟩=false
theorem gV.below {W W':World} {g B:Nat} {x y:Int} (h:gV W g x y) (hb:Below B W W') (hg:g<B):gV W' g x y:=
 ⟨He h.lt hb.size,(hb.cell (p:=⟨g,0,none⟩) hg).trans h.c0,(hb.cell (p:=⟨g,1,none⟩) hg).trans h.c1,(hb.frozen (p:=⟨g,0,none⟩) hg).trans h.f0,(hb.frozen (p:=⟨g,1,none⟩) hg).trans h.f1⟩
theorem gV.new (W:World) (x y:Int) (t:TypeId):gV (W.alloc (.cells #[.int .i64 x,.int .i64 y] t)) W.heap.size x y:=by
 obtain ⟨wa,hwa,hsa,hba,hca,hfa⟩:=ak W #[.int .i64 x,.int .i64 y] t
 rw [hwa]
 exact ⟨by omega,hca 0,hca 1,hfa 0,hfa 1⟩
theorem gV.alloc {W:World} {g:Nat} {x y:Int} (h:gV W g x y) (o:Obj):gV (W.alloc o) g x y:=h.below ((Hf _ _).alloc (Hh _) o) h.lt
theorem gV.far {W:World} {g k i:Nat} {x y:Int} (h:gV W g x y) (v:Value) (hk:k≠g):gV (W.setCell ⟨k,i,none⟩ v) g x y:=by
 have hh:(W.setCell ⟨k,i,none⟩ v).heap[g]? =W.heap[g]? :=Below.heap_setCell _ _ _ _ (fun e=>hk e.symm)
 refine ⟨by rw [an];exact h.lt,?_,?_,?_,?_⟩
 ·rw [←h.c0];unfold World.cell?;rw [hh]
 ·rw [←h.c1];unfold World.cell?;rw [hh]
 ·rw [←h.f0];unfold World.frozen?;rw [hh]
 ·rw [←h.f1];unfold World.frozen?;rw [hh]
theorem gV.set {W:World} {g:Nat} {x y:Int} (h:gV W g x y) (x' y':Int):gV ((W.setCell ⟨g,0,none⟩ (.int .i64 x')).setCell ⟨g,1,none⟩ (.int .i64 y')) g x' y':=by
 obtain ⟨hl,c0,c1,f0,f1⟩:=h
 refine ⟨by rw [an,an];exact hl,?_,?_,?_,?_⟩<;>simp [go_sem,c0,c1,f0,f1]
theorem gV.set1 {W:World} {g:Nat} {x y:Int} (h:gV W g x y) (y':Int):gV (W.setCell ⟨g,1,none⟩ (.int .i64 y')) g x y':=by
 obtain ⟨hl,c0,c1,f0,f1⟩:=h
 refine ⟨by rw [an];exact hl,?_,?_,?_,?_⟩<;>simp [go_sem,c0,c1,f0,f1]
theorem xE {B g:Nat} {a w:World} (h:Below B a w) (hg:B≤g) (v0 v1:Value):Below B a ((w.setCell ⟨g,0,none⟩ v0).setCell ⟨g,1,none⟩ v1):=(h.setCell (p:=⟨g,0,none⟩) hg _).setCell (p:=⟨g,1,none⟩) hg _
theorem dW {B g:Nat} {a w:World} (h:Below B a w) (hg:B≤g) (v0 v1 v2:Value):Below B a (((w.setCell ⟨g,0,none⟩ v0).setCell ⟨g,1,none⟩ v1).setCell ⟨g,2,none⟩ v2):=((h.setCell (p:=⟨g,0,none⟩) hg _).setCell (p:=⟨g,1,none⟩) hg _).setCell (p:=⟨g,2,none⟩) hg _
theorem xF (s:ByteArray) (k:Nat) (w:World) (hk:k≤s.size) (hs:s.size<4611686018427387904):
  Calls prog 86 #[.string s,.int .i64 (k:Int)] w fun e w'=>e=.returned (.agg #[.int .i64 (((be (s.data.toList.take k)).1:Nat):Int),.int .i64 (((be (s.data.toList.take k)).2:Nat):Int)])∧Below w.heap.size w w':=by
 obtain ⟨wa,hwa,hsa,hba,hca,hfa⟩:=ak w #[.int .i64 0,.int .i64 0] 45
 have z0:=hca 0
 have z1:=hca 1
 have f0:=hfa 0
 have f1:=hfa 1
 simp at z0 z1
 have hla:w.heap.size<wa.heap.size:=by omega
 have hsl:s.size≤9223372036854775807:=by omega
 have e1:min (k:Int) (s.size:Int)=k:=by omega
 have e2:max (0:Int) (k:Int)=k:=by omega
 have e3:(0:Int)≤(k:Int):=by omega
 have e4:(k:Int)≤(s.size:Int):=by omega
 obtain ⟨t,ht⟩:∃ t,t=s.extract 0 k:=⟨_,rfl⟩
 have htl:t.data.toList=s.data.toList.take k:=by rw [ht,gL]
 have htz:t.size=k:=by rw [Lib.size_eq,htl,HF,←Lib.size_eq];omega
 have hL:=aa (fun W=>Tryz.strings_LastIndexByte t 10 (by omega) W)
 have hC:=aa (fun W=>Tryz.strings_Count_one t 10 W)
 have hP:=uw t
 have hcl:Lib.countByte t.data.toList 10≤t.data.toList.length:=List.count_le_length
 rw [←Lib.size_eq] at hcl
 rw [←htl]
 obtain ⟨hp,hp1,hp2⟩:=hP
 rw [hp]
 generalize Lib.lastIndexByte t 10=li at hL hp1 hp2
 generalize Lib.countByte t.data.toList 10=ct at hC hcl
 have hre:Ending.returned (.agg #[.int .i64 (((ct+1:Nat)):Int),.int .i64 ((((t.size:Int)-(li+1)+1).toNat:Nat):Int)])=.returned (.agg #[.int .i64 ((ct:Int)+1),.int .i64 ((t.size:Int)-(li+1)+1)]):=by
  rw [Int.toNat_of_nonneg (by omega)];rfl
 simp only
 rw [hre]
 have htb:t.size≤4611686018427387904:=by omega
 have hfin:=aa hba
 replace hsa:=aa hsa
 replace ht:=aa ht
 clear hca hfa hba htl hp hre hk hs
 replace htz:=aa htz
 go_enter func86,ntmps86
 go_wp2_with (first|(go_at_call 139;(try rw [←ht.out]);refine (hL.out _).mono ?_;rintro e w' ⟨rfl,rfl⟩)|(go_at_call 140;(try rw [←ht.out]);refine (hC.out _).mono ?_;rintro e w' ⟨rfl,rfl⟩))
 exact bodyPost_ret (v:=.agg #[.int .i64 ((ct:Int)+1),.int .i64 ((t.size:Int)-(li+1)+1)]) (by simp [results,results86,go_sem,z0,z1]) rfl ⟨rfl,xE hfin.out (Hh _) _ _⟩
def dg (n:Int) (l:List UInt8):Value:=.agg #[.int .i64 n,.int .i64 (((be l).1:Nat):Int),.int .i64 (((be l).2:Nat):Int)]
def vZ:Value:=.agg #[.int .i64 0,.int .i64 0,.int .i64 0]
theorem pB (s:ByteArray) (k:Nat) (n:Int) (w:World) (hk:k≤s.size) (hs:s.size<4611686018427387904) (hn:n≠0):
  Calls prog 37 #[.string s,.int .i64 (k:Int),.int .i64 n] w fun e w'=>e=.returned (dg n (s.data.toList.take k))∧Below w.heap.size w w':=by
 obtain ⟨wa,hwa,hsa,hba,hca,hfa⟩:=ak w #[.int .i64 0,.int .i64 0,.int .i64 0] 47
 have z0:=hca 0
 have z1:=hca 1
 have z2:=hca 2
 have f0:=hfa 0
 have f1:=hfa 1
 have f2:=hfa 2
 simp at z0 z1 z2
 have hla:w.heap.size<wa.heap.size:=by omega
 have hn0b:(n==0)=false:=beq_eq_false_iff_ne.2 hn
 have hn0:¬n=0:=hn
 have hW:=aa (xF s k wa hk hs)
 unfold dg
 generalize (((be (s.data.toList.take k)).1:Nat):Int)=pl at hW ⊢
 generalize (((be (s.data.toList.take k)).2:Nat):Int)=pc at hW ⊢
 have hfin:=aa hba
 replace hsa:=aa hsa
 clear hca hfa hba hk hs hn
 go_enter func37,ntmps37
 go_wp2_with (go_at_call 86;refine hW.out.mono ?_;rintro e w3 ⟨rfl,hb3⟩;have kb:=ah hb3;have q3:=He hla hb3.size;have y0:=(kb.1 _ 0 hla).trans z0;have y1:=(kb.1 _ 1 hla).trans z1;have y2:=(kb.1 _ 2 hla).trans z2;have g0:=(kb.2 _ 0 hla).trans f0;have g1:=(kb.2 _ 1 hla).trans f1;have g2:=(kb.2 _ 2 hla).trans f2)
 exact bodyPost_ret (v:=.agg #[.int .i64 n,.int .i64 pl,.int .i64 pc]) (by simp [results,results37,go_sem,y0,y1,y2,q3]) rfl ⟨rfl,dW (hfin.out.trans (hb3.mono (Hs hla))) (Hh _) _ _ _⟩
section
open Go.RowKit Go.Lib
def Fe:List UInt8:= [115,49,46,116,58,32,49,57,50,47,52,32,45,62,32,102,119,100,40,50,41,59]
def CV:List UInt8:= [115,49,46,116,58,32,49,57,50,32,45,62,32,102,119,100,40,50,41,59]
def DW:List ByteArray:= [⟨#[115,49]⟩]
def E4:aR:=⟨0,[⟨0,192,0,240⟩],4,0,⟨0,[(0,2)]⟩⟩
def AB (r:Except (Int×Nat) (List Tk)):List Tk:=match r with| .ok l=>l| .error _=> []
def Et:List Tk:=AB (eU Fe)
def np:List Tk:=AB (eU CV)
theorem Eu:eU Fe=.ok Et:=by kernel_rfl
theorem Ev:eU CV=.ok np:=by kernel_rfl
theorem AD:bW Cv=true:=by kernel_rfl
theorem Ew:jx Cv DW 100 (List.replicate DW.length []) Et=some [[E4]]:=by kernel_rfl
theorem FO:(af np).kind≠0∧rm (af np)=true∧iH np∈DW:=⟨by decide+kernel,by decide+kernel,by decide+kernel⟩
theorem Ff:bA [46] (ae np)=true∧rm (af (ae (ae np)))=true∧iH (ae (ae np))∈Cv.nt∧(0:Int)=aU Cv.nt (iH (ae (ae np)))∧bA [58] (ae (ae (ae np)))=true:=⟨by decide+kernel,by decide+kernel,by decide+kernel,by decide+kernel,by decide+kernel⟩
def xG:List Tk:=ae (ae (ae (ae np)))
theorem Fg:bA [95] xG=false∧(af xG).kind=2∧bA [47] (ae xG)=false∧bA cH (ae xG)=false∧(af xG).pl=6:=⟨by decide+kernel,by decide+kernel,by decide+kernel,by decide+kernel,by decide+kernel⟩
theorem CW:be (CV.take 6)=(1,7):=by kernel_rfl
end
theorem bp {W:World} {b:Nat} {l:List Value} {o:Obj} (hb:b<W.heap.size) (h:bz W b l):bz (W.alloc o) b l:=fun j u hu=>(World.cell?_alloc_past _ _ _ hb).trans (h j u hu)
theorem ba {W:World} {b:Nat} {l:List Value} {t:TypeId} (hb:b=W.heap.size):bz (W.alloc (.cells l.toArray t)) b l:=fun j u hu=>by
 subst hb
 rw [World.cell?_alloc_at _ _ _ _ rfl]
 simpa using hu
theorem ux (w:World):Calls prog 17 #[] w fun e w'=>∃ A2 A3 A4 A5 A10 A11 A12,e=.returned (.agg #[.slice none 0 0,.slice A2 1 1,.slice A3 1 1,.slice A4 1 1,.slice A5 1 1,.slice none 0 0,.slice none 0 0,.slice none 0 0,.slice none 0 0,.slice A10 1 1,.slice A11 1 1,.slice A12 1 1])∧cJ w' w'.heap.size none A2 A3 A4 A5 none none none none A10 A11 A12 Cv∧Below w.heap.size w w':=by
 go_enter func17,ntmps17
 go_wp2
 trace_state
 refine bodyPost_ret (v:=.agg #[.slice none 0 0,.slice (some ⟨w.heap.size+1,0,none⟩) 1 1,.slice (some ⟨w.heap.size+2,0,none⟩) 1 1,.slice (some ⟨w.heap.size+4,0,none⟩) 1 1,.slice (some ⟨w.heap.size+11,0,none⟩) 1 1,.slice none 0 0,.slice none 0 0,.slice none 0 0,.slice none 0 0,.slice (some ⟨w.heap.size+12,0,none⟩) 1 1,.slice (some ⟨w.heap.size+13,0,none⟩) 1 1,.slice (some ⟨w.heap.size+14,0,none⟩) 1 1]) (by simp [results,results17,go_sem]) rfl ⟨_,_,_,_,_,_,_,rfl,Es (n:=w.heap.size) (by simp) ?_ ?_ ?_ ?_ ?_ ?_ ?_ ?_ ?_ ?_ ?_ ?_ ?_,?_⟩
 case refine_1=>
  iterate 13 refine bp (by simp) ?_
  refine ba (by simp)
 case refine_2=>
  iterate 12 refine bp (by simp) ?_
  refine ba (by simp)
 case refine_3=>
  iterate 11 refine bp (by simp) ?_
  refine ba (by simp)
 case refine_4=>
  iterate 10 refine bp (by simp) ?_
  refine ba (by simp)
 case refine_5=>
  iterate 8 refine bp (by simp) ?_
  refine ba (by simp)
 case refine_6=>
  iterate 7 refine bp (by simp) ?_
  refine ba (by simp)
 case refine_7=>
  iterate 6 refine bp (by simp) ?_
  refine ba (by simp)
 case refine_8=>
  iterate 5 refine bp (by simp) ?_
  refine ba (by simp)
 case refine_9=>
  iterate 4 refine bp (by simp) ?_
  refine ba (by simp)
 case refine_10=>
  iterate 3 refine bp (by simp) ?_
  refine ba (by simp)
 case refine_11=>
  iterate 2 refine bp (by simp) ?_
  refine ba (by simp)
 case refine_12=>
  iterate 1 refine bp (by simp) ?_
  refine ba (by simp)
 case refine_13=>
  refine ba (by simp)
 case refine_14=>
  iterate 15 refine Below.alloc ?_ (by simp<;>omega) _
  exact Hf _ _
def eO (ts:Array TypeId) (ty:TypeId) (args:Array Value):Sem Value:=Builtin.append_ ts ty args
theorem cU (ts:Array TypeId) (ty:TypeId) (args:Array Value):Builtin.append_ ts ty args=eO ts ty args:=rfl
theorem dX {w w':World} {base B:Nat} {e:TypeId} {size:Nat} {v:Value} {n:Nat} {xs:List Value} (h:w.ownsRow base e size v n xs) (hb:Below B w w') (hB:w.heap.size≤B):w'.ownsRow base e size v n xs:=by
 refine ⟨h.1,?_⟩
 rcases h.2 with h2|⟨g,cap,cur,rfl,hg,hh,r⟩
 ·exact .inl h2
 ·have:=(h.lt g rfl).2
  exact .inr ⟨g,cap,cur,rfl,hg,(hb.block g (by omega)).trans hh,r⟩
def dI:Nat:=100000000
theorem xH (A1 A2 A3 A4 A5 A6 A7 A8 A9 A10 A11 A12:Option Addr) (p:Lp) (c1 c2 c3 c4 c5 c6 c7 c8 c9 c10 c11 c12:Nat) (act:Int) (n:Nd) (w:World) (h:cJ w w.heap.size A1 A2 A3 A4 A5 A6 A7 A8 A9 A10 A11 A12 p) (hn:aI n.hi∧aI n.lo):Calls prog 159 #[.agg #[.slice A1 p.heads.length c1,.slice A2 p.metas.length c2,.slice A3 p.steps.length c3,.slice A4 p.acts.length c4,.slice A5 p.tabs.length c5,.slice A6 p.control.length c6,.slice A7 p.emit.length c7,.slice A8 p.nh.length c8,.slice A9 p.nf.length c9,.slice A10 p.nm.length c10,.slice A11 p.na.length c11,.slice A12 p.nt.length c12],.int .i64 act,.agg #[.int .u8 n.op,.int .i64 n.w,.int .i64 n.a,.int .i64 n.b,.int .u64 n.hi,.int .u64 n.lo]] w fun e w'=>e=.returned (.int .i64 (rH p act n))∧Below w.heap.size w w':=by
 obtain ⟨op,nw,a,b,hi,lo⟩:=n
 simp only at hn ⊢
 obtain ⟨wz,hwz,hsz,hbz,hcz,-⟩:=ak w #[.slice A1 p.heads.length c1,.slice A2 p.metas.length c2,.slice A3 p.steps.length c3,.slice A4 p.acts.length c4,.slice A5 p.tabs.length c5,.slice A6 p.control.length c6,.slice A7 p.emit.length c7,.slice A8 p.nh.length c8,.slice A9 p.nf.length c9,.slice A10 p.nm.length c10,.slice A11 p.na.length c11,.slice A12 p.nt.length c12] 33
 obtain ⟨wa,hwa,hsa,hba,hca,-⟩:=ak wz #[.int .u8 op,.int .i64 nw,.int .i64 a,.int .i64 b,.int .u64 hi,.int .u64 lo] 110
 have y0:=(bH hba w.heap.size 0 (by omega)).trans (hcz 0)
 have y1:=(bH hba w.heap.size 1 (by omega)).trans (hcz 1)
 have y3:=(bH hba w.heap.size 3 (by omega)).trans (hcz 3)
 simp only [HH,HK,HM] at y0 y1 y3
 simp only [hsz] at hca
 have x0:wa.cell? ⟨w.heap.size+1,0,none⟩=some (.int .u8 op):=hca 0
 have x1:wa.cell? ⟨w.heap.size+1,1,none⟩=some (.int .i64 nw):=hca 1
 have x2:wa.cell? ⟨w.heap.size+1,2,none⟩=some (.int .i64 a):=hca 2
 have x3:wa.cell? ⟨w.heap.size+1,3,none⟩=some (.int .i64 b):=hca 3
 have x4:wa.cell? ⟨w.heap.size+1,4,none⟩=some (.int .u64 hi):=hca 4
 have x5:wa.cell? ⟨w.heap.size+1,5,none⟩=some (.int .u64 lo):=hca 5
 have hl1:w.heap.size<wa.heap.size:=by omega
 have hl2:w.heap.size+1<wa.heap.size:=by omega
 have hw:Below w.heap.size w wa:=hbz.trans (hba.mono (by omega))
 have hS:=(h.below hw).more hw.size
 have hA1:=aa hS.heads
 have hA2:=aa hS.metas
 have hA4:=aa hS.acts
 replace hw:=aa hw
 replace hsa:=aa hsa
 clear hca hcz hba hbz h hS
 have hv:=aa (show rH p act ⟨op,nw,a,b,hi,lo⟩=if op=1 then (if a=0∧bN nw hi lo=true then nw else 0) else eW p act op a b from rfl)
 go_enter func159,ntmps159
 by_cases o1:op=1
 ·subst o1
  have hF:=fun W=>cL hi lo nw W hn
  generalize bN nw hi lo=F at hF hv
  replace hF:=aa hF
  by_cases ha:a=0
  ·subst ha
   cases F
   all_goals
    go_wp2_with (go_at_call 115;refine (hF.out _).mono ?_;rintro e w3 ⟨rfl,hb3⟩;have kb3:=iF hb3)
    go_ret
    exact ⟨aq (by rw [hv.out];rfl),hw.out.trans (hb3.mono hw.out.size)⟩
  ·go_wp2
   go_ret
   exact ⟨aq (by rw [hv.out];simp [ha]),hw.out⟩
 ·by_cases o2:op=2
  ·subst o2
   go_wp2_with (first|(go_at_call 154;refine (lX _ _ _ _ _ hA1.out).mono ?_;rintro e w' ⟨A',c',rfl,hs,rfl⟩)|(go_at_call 155;refine (jr _ _ _ _ _ hs).mono ?_;rintro e w' ⟨rfl,rfl⟩))
   go_ret
   exact ⟨aq (by rw [hv.out];rfl),hw.out⟩
  ·by_cases o3:op=3
   ·subst o3
    go_wp2_with (go_at_call 155;refine (jr _ _ _ _ _ hA2.out).mono ?_;rintro e w' ⟨rfl,rfl⟩)
    go_ret
    exact ⟨aq (by rw [hv.out];rfl),hw.out⟩
   ·by_cases o4:op=4
    ·subst o4
     go_wp2_with (first|(go_at_call 112;refine (qD _ _ _ _ _ hA4.out).mono ?_;rintro e w3 ⟨A',c',A'',n'',c'',rfl,hs,hb3⟩;have kb3:=iF hb3;have hq:=He hl2 hb3.size;have hs3:=aa ((hs.below ai hb3).more ai hb3.size))|(go_at_call 155;refine (jr _ _ _ _ _ ((hs3.out.alloc ai (Hh _) _).more ai (by simp))).mono ?_;rintro e w' ⟨rfl,rfl⟩))
     go_ret
     exact ⟨aq (by rw [hv.out];rfl),hw.out.trans ((hb3.mono hw.out.size).alloc (Hj hw.out.size hb3.size) _)⟩
    ·by_cases o5:op=5
     ·subst o5
      by_cases ha:a=0
      ·subst ha
       go_wp2
       go_ret
       exact ⟨aq (by rw [hv.out];rfl),hw.out⟩
      ·go_wp2
       go_ret
       exact ⟨aq (by rw [hv.out];simp [eW,ha]),hw.out⟩
     ·by_cases o6:op=6
      ·subst o6
       cases hz:dJ p.heads.length a
       all_goals
        go_wp2_with (go_at_call 154;refine (lX _ _ _ _ _ hA1.out).mono ?_;rintro e w' ⟨A',c',rfl,hs,rfl⟩;rw [hz])
        go_ret
        exact ⟨aq (by rw [hv.out];simp [eW,hz]),hw.out⟩
      ·go_wp2
       go_ret
       exact ⟨aq (by rw [hv.out];simp [eW,o1,o2,o3,o4,o5,o6]),hw.out⟩
theorem nr:(prog.info? 3).map (fun i=>(i.zero,i.size,i.bytes))=some (some (.int .i64 0),1,8):=by kernel_rfl
def cD (w:World) (base:Nat) (v:Value) (l:List Int):Prop:=w.ownsRow base 3 1 v l.length (l.map (Value.int .i64))
theorem cD.nil_ (w:World) (base:Nat):cD w base (.slice none 0 0) []:=World.ownsRow_nil _ _ _ _
theorem cD.below {w w':World} {base C:Nat} {v:Value} {l:List Int} (h:cD w base v l) (hb:Below C w w') (hC:w.heap.size≤C):cD w' base v l:=dX h hb hC
theorem cD.mono {w:World} {base base':Nat} {v:Value} {l:List Int} (h:cD w base v l) (hb:base'≤base):cD w base' v l:=by
 refine ⟨h.1,?_⟩
 rcases h.2 with h2|⟨g,cap,cur,rfl,hg,r⟩
 ·exact .inl h2
 ·exact .inr ⟨g,cap,cur,rfl,by omega,r⟩
theorem cD.form {w:World} {base:Nat} {v:Value} {l:List Int} (h:cD w base v l):∃ A cap,v=.slice A l.length cap:=by
 rcases h.2 with ⟨rfl,hz⟩|⟨g,cap,cur,rfl,_⟩
 ·exact ⟨none,0,by rw [hz]⟩
 ·exact ⟨_,_,rfl⟩
theorem xI (l:List Int):l.map (Value.int .i64)=l.flatMap fun x=> [Value.int .i64 x]:=by induction l<;>simp_all
theorem cD.sl {w:World} {base:Nat} {v:Value} {l:List Int} (h:cD w base v l):∃ A cap,v=.slice A l.length cap∧Sl 1 bd w w.heap.size A l:=by
 refine j4 (f:=fun x=> [Value.int .i64 x]) (fun _=>rfl) (fun _ _=>rfl) (base:=base) (e:=3) ?_
 rw [←xI];exact h
theorem rY (xs:List Int):∀ u∈xs.map (Value.int .i64),u.oneCell'=true:=fun u hu=>by
 obtain ⟨x,-,rfl⟩:=HN.1 hu;rfl
theorem jz {W:World} {base:Nat} {v:Value} {l:List Int} (x:Int) (hd:cD W base v l) (hb:base≤W.heap.size) (hz:l.length≤dI):
  ∃ v' w',(eO #[23,23] 23 #[v,.slice (some ⟨W.heap.size,0,none⟩) 1 1]).run prog (W.alloc (.cells #[.int .i64 x] 3))=.ok v' w'∧cD w' base v' (l++ [x])∧Below base W w':=by
 unfold dI at hz
 obtain ⟨ii,hii,hzi0,hzi1,hzi2⟩:=info_parts nr
 obtain ⟨v',w',hrun,h2,h3,_,_⟩:=run_append_own_at (P:=prog) (W.alloc (.cells #[.int .i64 x] 3)) base 23 23 3 ii (.int .i64 0) 1 8 underlying23 hii hzi0 hzi1 hzi2 rfl (by omega) v l.length _ (World.ownsRow.alloc hd _) ⟨W.heap.size,0,none⟩ 1 1 [.int .i64 x] rfl (World.news_of_block (cs:=#[.int .i64 x]) (t:=3) (fr:=(0,0)) (heap_alloc_new W _)) (by simp [Value.oneCell']) (by simp [maxLen];omega) (by omega) (by simp;omega)
 exact ⟨v',w',hrun,by unfold cD;simpa using h2,(((Hf _ _).alloc hb _).grown h3 (by simp;omega) (fun g e=>(hd.lt g e).1))⟩
def ky (w:World) (g:Nat) (xs:List Int) (b:Bool):Prop:=∃ v,w.heap[g]? =some (.cells #[v,.bool b] 169 (0,0))∧cD w (g+1) v xs
theorem ky.lt {w:World} {g:Nat} {xs:List Int} {b:Bool} (h:ky w g xs b):g<w.heap.size:=by
 obtain ⟨v,h,_⟩:=h
 exact (If.1 h).1
theorem ky.below {w w':World} {g:Nat} {xs:List Int} {b:Bool} (h:ky w g xs b) (hb:Below w.heap.size w w'):ky w' g xs b:=by
 have hl:=h.lt
 obtain ⟨v,h1,h2⟩:=h
 exact ⟨v,(hb.block g hl).trans h1,h2.below hb (Hh _)⟩
theorem ky.cells {w:World} {g:Nat} {xs:List Int} {b:Bool} (h:ky w g xs b):∃ v,w.cell? ⟨g,0,none⟩=some v∧w.cell? ⟨g,1,none⟩=some (.bool b)∧w.frozen? ⟨g,0,none⟩=false∧w.frozen? ⟨g,1,none⟩=false∧cD w (g+1) v xs:=by
 obtain ⟨v,h1,h2⟩:=h
 exact ⟨v,by simp [World.cell?,h1],by simp [World.cell?,h1],by simp [World.frozen?,h1],by simp [World.frozen?,h1],h2⟩
def Gr (g:Nat) (w w':World):Prop:=w.grownBy w' (some g)
theorem Gr.refl (g:Nat) (w:World):Gr g w w:=⟨rfl,rfl,rfl,Hh _,fun _ _ _=>rfl⟩
theorem Gr.trans {g:Nat} {a b c:World} (h:Gr g a b) (h':Gr g b c):Gr g a c:=⟨h'.os.trans h.os,h'.tape.trans h.tape,h'.output.trans h.output,Hj h.size h'.size,fun k hk hn=>(h'.block k (He hk h.size) hn).trans (h.block k hk hn)⟩
theorem Gr.of {g:Nat} {a b:World} (h:Below a.heap.size a b):Gr g a b:=⟨h.os,h.tape,h.output,h.size,fun k hk _=>h.block k hk⟩
theorem Gr.set (g:Nat) (w:World) (i:Nat) (v:Value):Gr g w (w.setCell ⟨g,i,none⟩ v):=⟨rfl,rfl,rfl,by simp,fun k _ hn=>Below.heap_setCell w ⟨g,i,none⟩ v k (by show k≠g;intro e;subst e;exact hn rfl)⟩
theorem Gr.below {g B:Nat} {a b:World} (h:Gr g a b) (hB:B≤g) (hs:B≤a.heap.size):Below B a b:=⟨h.os,h.tape,h.output,h.size,fun k hk=>h.block k (He hk hs) (by simp;omega)⟩
theorem Gr.cell {g k i:Nat} {a b:World} (h:Gr g a b) (hk:k<a.heap.size) (hn:k≠g):b.cell? ⟨k,i,none⟩=a.cell? ⟨k,i,none⟩:=World.cell?_of_block (h.block k hk (by simp;exact hn))
theorem rZ {w:World} {g i:Nat} {v:Value} {cs:Array Value} {t:TypeId} (h:w.heap[g]? =some (.cells cs t (0,0))):(w.setCell ⟨g,i,none⟩ v).heap[g]? =some (.cells (cs.setIfInBounds i v) t (0,0)):=by
 simp [World.setCell,Array.getElem?_modify,h]
theorem cD.set {w:World} {base g i:Nat} {v u:Value} {l:List Int} (h:cD w base v l) (hg:g<base):cD (w.setCell ⟨g,i,none⟩ u) base v l:=by
 refine ⟨h.1,?_⟩
 rcases h.2 with h2|⟨g',cap,cur,rfl,hg',hh,r⟩
 ·exact .inl h2
 ·exact .inr ⟨g',cap,cur,rfl,hg',(Below.heap_setCell w ⟨g,i,none⟩ u g' (by show g'≠g;omega)).trans hh,r⟩
theorem ky.set0 {w w':World} {g:Nat} {b:Bool} {v u:Value} {l:List Int} (h:w.heap[g]? =some (.cells #[v,.bool b] 169 (0,0))) (hb:Below (g+1) w w') (hu:cD w' (g+1) u l):ky (w'.setCell ⟨g,0,none⟩ u) g l b:=
 ⟨u,by rw [rZ (w:=w') ((hb.block g (by omega)).trans h)];rfl,hu.set (by omega)⟩
theorem ky.set1 {w w':World} {g:Nat} {b:Bool} {v:Value} {l:List Int} (h:w.heap[g]? =some (.cells #[v,.bool b] 169 (0,0))) (hb:Below (g+1) w w') (hu:cD w' (g+1) v l):ky (w'.setCell ⟨g,1,none⟩ (.bool true)) g l true:=
 ⟨v,by rw [rZ (w:=w') ((hb.block g (by omega)).trans h)];rfl,hu.set (by omega)⟩
theorem cD.pop {w:World} {base:Nat} {v:Value} {l:List Int} {x:Int} (h:cD w base v (l++ [x])):∃ g cap,v=.slice (some ⟨g,0,none⟩) (l.length+1) cap∧l.length+1≤cap∧cap≤maxLen∧w.cell? ⟨g,l.length,none⟩=some (.int .i64 x)∧cD w base (.slice (some ⟨g,0,none⟩) l.length cap) l:=by
 have h':w.ownsRow base 3 1 v (l.length+1) (l.map (Value.int .i64)++ [.int .i64 x]):=by unfold cD at h;simpa using h
 rcases h'.2 with ⟨_,hz⟩|⟨g,cap,cur,rfl,hg,hh,hc,hm,r⟩
 ·omega
 ·refine ⟨g,cap,rfl,hc,hm,?_,?_⟩
  ·have:=h'.cells (g:=g) rfl l.length (.int .i64 x) (by simp)
   have e:(⟨g,0,none⟩:Addr).add l.length=⟨g,l.length,none⟩:=by unfold Addr.add;split<;>simp_all
   rwa [e] at this
  ·exact ownsRow_pop (by simp) h'
theorem nx (w:World) (g:Nat) (b:Bool) (h:ky w g [] b):Calls prog 160 #[.pointer (some ⟨g,0,none⟩)] w fun e w'=>e=.returned (.int .i64 0)∧ky w' g [] true∧Gr g w w':=by
 have hg:=h.lt
 obtain ⟨v,h1,h2⟩:=h
 obtain ⟨A,cap,rfl⟩:=h2.form
 have c0:w.cell? ⟨g,0,none⟩=some (.slice A 0 cap):=by simp [World.cell?,h1]
 have f1:w.frozen? ⟨g,1,none⟩=false:=by simp [World.frozen?,h1]
 have c1:w.cell? ⟨g,1,none⟩=some (.bool b):=by simp [World.cell?,h1]
 replace h1:=aa h1
 go_enter func160,ntmps160
 go_wp2
 go_ret
 exact ⟨rfl,ky.set1 h1.out (Hf _ _) h2,Gr.set _ _ _ _⟩
theorem ny (w:World) (g:Nat) (xs:List Int) (x:Int) (b:Bool) (h:ky w g (xs++ [x]) b) (hm:xs.length≤100000):Calls prog 160 #[.pointer (some ⟨g,0,none⟩)] w fun e w'=>e=.returned (.int .i64 x)∧ky w' g xs b∧Gr g w w':=by
 have hg:=h.lt
 obtain ⟨v,h1,h2⟩:=h
 obtain ⟨k,cap,rfl,hc,hcm,hx,h3⟩:=h2.pop
 have c0:w.cell? ⟨g,0,none⟩=some (.slice (some ⟨k,0,none⟩) (xs.length+1) cap):=by simp [World.cell?,h1]
 have f0:w.frozen? ⟨g,0,none⟩=false:=by simp [World.frozen?,h1]
 replace h1:=aa h1
 replace h3:=aa h3
 clear h2
 generalize hn:xs.length=n at*
 have hnz:((n:Int)+1==0)=false:=by rw [beq_eq_false_iff_ne];omega
 go_enter func160,ntmps160
 go_wp2_with fail
 go_quiet (fail)
 go_wp2_with fail
 go_region
 all_goals
  go_wp2
  go_ret
  have hd:∀ B m,Below B w (w.drewN m):=fun B m=>au (Hf _ _) m
  exact ⟨rfl,ky.set0 h1.out (hd _ _) (h3.out.below (hd _ _) (Hh _)),(Gr.of (hd _ _)).trans (Gr.set _ _ _ _)⟩
end Go.Proofs.YtiebolhmdhdagaaGreatDoor

import Derived.Test.YtijcdfdbkffiaaaGreatDoorCbp06
import Derived.Shelf.Strings.SlTrimAscii
import Derived.Deep.RegionHeld3
set_option linter.all false
set_option maxHeartbeats 8000000
set_option maxRecDepth 100000
open Go.Proofs.Tryz
namespace Go.Proofs.YtijcdfdbkffiaaaGreatDoor
open _root_.Nat renaming lt_of_lt_of_le→Hr, le_refl→Ht, le_trans→Hw, zero_le→Hz, le_of_lt→HL
open _root_.Go.RowKit.Below renaming refl→Hs
open _root_.Bool renaming and_eq_true→Hy, eq_iff_iff→HF, or_eq_true→HS, false_eq_true→H2
open _root_.List renaming getElem?_eq_getElem→HA, getElem_mem→HE, length_drop→HR, all_eq_true→HT, length_map→H4, take_of_length_le→H6, take_succ_eq_append_getElem→H9, length_pos_iff→Ij
open _root_.Int renaming toNat_natCast→HQ
open _root_.Array renaming getElem?_eq_some_iff→Ir
open Go.RowKit
section
abbrev wJ (n:Int):Ending:=.panicked [{ v:=.iface 39 (.int .i64 n),recovered:=false}]
attribute [local go_sem] run_panic_iface
theorem zU (s:ByteArray) (w:World) (h0:0<s.size):
  Calls prog 184 #[.string s] w fun e w'=>w'=w∧((aK s.data.toList= []∧e=wJ 4)∨(∃ m:ByteArray,m.data.toList=aK s.data.toList∧aK s.data.toList≠ []∧e=.returned (.string m))):=by
 have hz:(0:Int)<(s.size:Int):=by omega
 have h1:(1:Int)≤(s.size:Int):=by omega
 have h1n:1≤s.size:=h0
 have hP:=aa (fun p W=>Tryz.strings_HasPrefix s p W)
 have hC:=aa (fun W=>Tryz.strings_Contains_one ⟨#[123,125,40,41,91,93,59,58,44,61,60,62,43,45,38,124,94,126,33,46,47]⟩ s[0] W)
 rw [←uN h0] at hC
 go_enter func184,ntmps184
 go_wp2
 go_loop [4,6] (fun _ i=>∃ k:Nat,k≤11∧i=.int .i64 k∧Hid (aL (aD.drop k) s.data.toList=aK s.data.toList)) (fun _ i=>11-(intOf i).toNat)
 case atStart=>exact ⟨0,Hz _,rfl,aa rfl⟩
 case round=>
  obtain ⟨k,hk,rfl,hm⟩:=hrel
  by_cases hlt:k<11
  ·rcases (show k=0∨k=1∨k=2∨k=3∨k=4∨k=5∨k=6∨k=7∨k=8∨k=9∨k=10 from by omega) with rfl|rfl|rfl|rfl|rfl|rfl|rfl|rfl|rfl|rfl|rfl
   ·have hx:∀ W,(Instr.index 254 (.agg #[.string ⟨#[38,38,38]⟩,.string ⟨#[61,61]⟩,.string ⟨#[33,61]⟩,.string ⟨#[60,61]⟩,.string ⟨#[62,61]⟩,.string ⟨#[60,60]⟩,.string ⟨#[62,62]⟩,.string ⟨#[38,38]⟩,.string ⟨#[124,124]⟩,.string ⟨#[43,43]⟩,.string ⟨#[45,62]⟩]) (.int .i64 0)).run prog W=.ok (.string ⟨#[38,38,38]⟩) W:=fun _=>by kernel_rfl
    have hm1:=aa (show (if Lib.hasPrefix s.data.toList [38,38,38] then [38,38,38] else aL (aD.drop 1) s.data.toList)=aK s.data.toList from hm.out)
    cases hb:Lib.hasPrefix s.data.toList [38,38,38] with
    |true=>
     have hq:=fun W=>hP.out ⟨#[38,38,38]⟩ W
     simp only [hb] at hq
     have he:aK s.data.toList= [38,38,38]:=by rw [←hm1.out,hb];rfl
     replace he:=aa he
     replace hb:=aa hb
     go_wp2_with (go_at_call 182;refine (hq _).mono ?_;rintro e w' ⟨rfl,rfl⟩)
     go_ret
     exact ⟨rfl,.inr ⟨⟨#[38,38,38]⟩,he.out.symm,by rw [he.out];simp,rfl⟩⟩
    |false=>
     have hq:=fun W=>hP.out ⟨#[38,38,38]⟩ W
     simp only [hb] at hq
     have he:aL (aD.drop 1) s.data.toList=aK s.data.toList:=by rw [←hm1.out,hb];rfl
     replace he:=aa he
     replace hb:=aa hb
     go_wp2_with (go_at_call 182;refine (hq _).mono ?_;rintro e w' ⟨rfl,rfl⟩)
     go_round
     case rel=>exact ⟨1,by omega,rfl,he⟩
     case measure=>simp [intOf]
   ·have hx:∀ W,(Instr.index 254 (.agg #[.string ⟨#[38,38,38]⟩,.string ⟨#[61,61]⟩,.string ⟨#[33,61]⟩,.string ⟨#[60,61]⟩,.string ⟨#[62,61]⟩,.string ⟨#[60,60]⟩,.string ⟨#[62,62]⟩,.string ⟨#[38,38]⟩,.string ⟨#[124,124]⟩,.string ⟨#[43,43]⟩,.string ⟨#[45,62]⟩]) (.int .i64 1)).run prog W=.ok (.string ⟨#[61,61]⟩) W:=fun _=>by kernel_rfl
    have hm1:=aa (show (if Lib.hasPrefix s.data.toList [61,61] then [61,61] else aL (aD.drop 2) s.data.toList)=aK s.data.toList from hm.out)
    cases hb:Lib.hasPrefix s.data.toList [61,61] with
    |true=>
     have hq:=fun W=>hP.out ⟨#[61,61]⟩ W
     simp only [hb] at hq
     have he:aK s.data.toList= [61,61]:=by rw [←hm1.out,hb];rfl
     replace he:=aa he
     replace hb:=aa hb
     go_wp2_with (go_at_call 182;refine (hq _).mono ?_;rintro e w' ⟨rfl,rfl⟩)
     go_ret
     exact ⟨rfl,.inr ⟨⟨#[61,61]⟩,he.out.symm,by rw [he.out];simp,rfl⟩⟩
    |false=>
     have hq:=fun W=>hP.out ⟨#[61,61]⟩ W
     simp only [hb] at hq
     have he:aL (aD.drop 2) s.data.toList=aK s.data.toList:=by rw [←hm1.out,hb];rfl
     replace he:=aa he
     replace hb:=aa hb
     go_wp2_with (go_at_call 182;refine (hq _).mono ?_;rintro e w' ⟨rfl,rfl⟩)
     go_round
     case rel=>exact ⟨2,by omega,rfl,he⟩
     case measure=>simp [intOf]
   ·have hx:∀ W,(Instr.index 254 (.agg #[.string ⟨#[38,38,38]⟩,.string ⟨#[61,61]⟩,.string ⟨#[33,61]⟩,.string ⟨#[60,61]⟩,.string ⟨#[62,61]⟩,.string ⟨#[60,60]⟩,.string ⟨#[62,62]⟩,.string ⟨#[38,38]⟩,.string ⟨#[124,124]⟩,.string ⟨#[43,43]⟩,.string ⟨#[45,62]⟩]) (.int .i64 2)).run prog W=.ok (.string ⟨#[33,61]⟩) W:=fun _=>by kernel_rfl
    have hm1:=aa (show (if Lib.hasPrefix s.data.toList [33,61] then [33,61] else aL (aD.drop 3) s.data.toList)=aK s.data.toList from hm.out)
    cases hb:Lib.hasPrefix s.data.toList [33,61] with
    |true=>
     have hq:=fun W=>hP.out ⟨#[33,61]⟩ W
     simp only [hb] at hq
     have he:aK s.data.toList= [33,61]:=by rw [←hm1.out,hb];rfl
     replace he:=aa he
     replace hb:=aa hb
     go_wp2_with (go_at_call 182;refine (hq _).mono ?_;rintro e w' ⟨rfl,rfl⟩)
     go_ret
     exact ⟨rfl,.inr ⟨⟨#[33,61]⟩,he.out.symm,by rw [he.out];simp,rfl⟩⟩
    |false=>
     have hq:=fun W=>hP.out ⟨#[33,61]⟩ W
     simp only [hb] at hq
     have he:aL (aD.drop 3) s.data.toList=aK s.data.toList:=by rw [←hm1.out,hb];rfl
     replace he:=aa he
     replace hb:=aa hb
     go_wp2_with (go_at_call 182;refine (hq _).mono ?_;rintro e w' ⟨rfl,rfl⟩)
     go_round
     case rel=>exact ⟨3,by omega,rfl,he⟩
     case measure=>simp [intOf]
   ·have hx:∀ W,(Instr.index 254 (.agg #[.string ⟨#[38,38,38]⟩,.string ⟨#[61,61]⟩,.string ⟨#[33,61]⟩,.string ⟨#[60,61]⟩,.string ⟨#[62,61]⟩,.string ⟨#[60,60]⟩,.string ⟨#[62,62]⟩,.string ⟨#[38,38]⟩,.string ⟨#[124,124]⟩,.string ⟨#[43,43]⟩,.string ⟨#[45,62]⟩]) (.int .i64 3)).run prog W=.ok (.string ⟨#[60,61]⟩) W:=fun _=>by kernel_rfl
    have hm1:=aa (show (if Lib.hasPrefix s.data.toList [60,61] then [60,61] else aL (aD.drop 4) s.data.toList)=aK s.data.toList from hm.out)
    cases hb:Lib.hasPrefix s.data.toList [60,61] with
    |true=>
     have hq:=fun W=>hP.out ⟨#[60,61]⟩ W
     simp only [hb] at hq
     have he:aK s.data.toList= [60,61]:=by rw [←hm1.out,hb];rfl
     replace he:=aa he
     replace hb:=aa hb
     go_wp2_with (go_at_call 182;refine (hq _).mono ?_;rintro e w' ⟨rfl,rfl⟩)
     go_ret
     exact ⟨rfl,.inr ⟨⟨#[60,61]⟩,he.out.symm,by rw [he.out];simp,rfl⟩⟩
    |false=>
     have hq:=fun W=>hP.out ⟨#[60,61]⟩ W
     simp only [hb] at hq
     have he:aL (aD.drop 4) s.data.toList=aK s.data.toList:=by rw [←hm1.out,hb];rfl
     replace he:=aa he
     replace hb:=aa hb
     go_wp2_with (go_at_call 182;refine (hq _).mono ?_;rintro e w' ⟨rfl,rfl⟩)
     go_round
     case rel=>exact ⟨4,by omega,rfl,he⟩
     case measure=>simp [intOf]
   ·have hx:∀ W,(Instr.index 254 (.agg #[.string ⟨#[38,38,38]⟩,.string ⟨#[61,61]⟩,.string ⟨#[33,61]⟩,.string ⟨#[60,61]⟩,.string ⟨#[62,61]⟩,.string ⟨#[60,60]⟩,.string ⟨#[62,62]⟩,.string ⟨#[38,38]⟩,.string ⟨#[124,124]⟩,.string ⟨#[43,43]⟩,.string ⟨#[45,62]⟩]) (.int .i64 4)).run prog W=.ok (.string ⟨#[62,61]⟩) W:=fun _=>by kernel_rfl
    have hm1:=aa (show (if Lib.hasPrefix s.data.toList [62,61] then [62,61] else aL (aD.drop 5) s.data.toList)=aK s.data.toList from hm.out)
    cases hb:Lib.hasPrefix s.data.toList [62,61] with
    |true=>
     have hq:=fun W=>hP.out ⟨#[62,61]⟩ W
     simp only [hb] at hq
     have he:aK s.data.toList= [62,61]:=by rw [←hm1.out,hb];rfl
     replace he:=aa he
     replace hb:=aa hb
     go_wp2_with (go_at_call 182;refine (hq _).mono ?_;rintro e w' ⟨rfl,rfl⟩)
     go_ret
     exact ⟨rfl,.inr ⟨⟨#[62,61]⟩,he.out.symm,by rw [he.out];simp,rfl⟩⟩
    |false=>
     have hq:=fun W=>hP.out ⟨#[62,61]⟩ W
     simp only [hb] at hq
     have he:aL (aD.drop 5) s.data.toList=aK s.data.toList:=by rw [←hm1.out,hb];rfl
     replace he:=aa he
     replace hb:=aa hb
     go_wp2_with (go_at_call 182;refine (hq _).mono ?_;rintro e w' ⟨rfl,rfl⟩)
     go_round
     case rel=>exact ⟨5,by omega,rfl,he⟩
     case measure=>simp [intOf]
   ·have hx:∀ W,(Instr.index 254 (.agg #[.string ⟨#[38,38,38]⟩,.string ⟨#[61,61]⟩,.string ⟨#[33,61]⟩,.string ⟨#[60,61]⟩,.string ⟨#[62,61]⟩,.string ⟨#[60,60]⟩,.string ⟨#[62,62]⟩,.string ⟨#[38,38]⟩,.string ⟨#[124,124]⟩,.string ⟨#[43,43]⟩,.string ⟨#[45,62]⟩]) (.int .i64 5)).run prog W=.ok (.string ⟨#[60,60]⟩) W:=fun _=>by kernel_rfl
    have hm1:=aa (show (if Lib.hasPrefix s.data.toList [60,60] then [60,60] else aL (aD.drop 6) s.data.toList)=aK s.data.toList from hm.out)
    cases hb:Lib.hasPrefix s.data.toList [60,60] with
    |true=>
     have hq:=fun W=>hP.out ⟨#[60,60]⟩ W
     simp only [hb] at hq
     have he:aK s.data.toList= [60,60]:=by rw [←hm1.out,hb];rfl
     replace he:=aa he
     replace hb:=aa hb
     go_wp2_with (go_at_call 182;refine (hq _).mono ?_;rintro e w' ⟨rfl,rfl⟩)
     go_ret
     exact ⟨rfl,.inr ⟨⟨#[60,60]⟩,he.out.symm,by rw [he.out];simp,rfl⟩⟩
    |false=>
     have hq:=fun W=>hP.out ⟨#[60,60]⟩ W
     simp only [hb] at hq
     have he:aL (aD.drop 6) s.data.toList=aK s.data.toList:=by rw [←hm1.out,hb];rfl
     replace he:=aa he
     replace hb:=aa hb
     go_wp2_with (go_at_call 182;refine (hq _).mono ?_;rintro e w' ⟨rfl,rfl⟩)
     go_round
     case rel=>exact ⟨6,by omega,rfl,he⟩
     case measure=>simp [intOf]
   ·have hx:∀ W,(Instr.index 254 (.agg #[.string ⟨#[38,38,38]⟩,.string ⟨#[61,61]⟩,.string ⟨#[33,61]⟩,.string ⟨#[60,61]⟩,.string ⟨#[62,61]⟩,.string ⟨#[60,60]⟩,.string ⟨#[62,62]⟩,.string ⟨#[38,38]⟩,.string ⟨#[124,124]⟩,.string ⟨#[43,43]⟩,.string ⟨#[45,62]⟩]) (.int .i64 6)).run prog W=.ok (.string ⟨#[62,62]⟩) W:=fun _=>by kernel_rfl
    have hm1:=aa (show (if Lib.hasPrefix s.data.toList [62,62] then [62,62] else aL (aD.drop 7) s.data.toList)=aK s.data.toList from hm.out)
    cases hb:Lib.hasPrefix s.data.toList [62,62] with
    |true=>
     have hq:=fun W=>hP.out ⟨#[62,62]⟩ W
     simp only [hb] at hq
     have he:aK s.data.toList= [62,62]:=by rw [←hm1.out,hb];rfl
     replace he:=aa he
     replace hb:=aa hb
     go_wp2_with (go_at_call 182;refine (hq _).mono ?_;rintro e w' ⟨rfl,rfl⟩)
     go_ret
     exact ⟨rfl,.inr ⟨⟨#[62,62]⟩,he.out.symm,by rw [he.out];simp,rfl⟩⟩
    |false=>
     have hq:=fun W=>hP.out ⟨#[62,62]⟩ W
     simp only [hb] at hq
     have he:aL (aD.drop 7) s.data.toList=aK s.data.toList:=by rw [←hm1.out,hb];rfl
     replace he:=aa he
     replace hb:=aa hb
     go_wp2_with (go_at_call 182;refine (hq _).mono ?_;rintro e w' ⟨rfl,rfl⟩)
     go_round
     case rel=>exact ⟨7,by omega,rfl,he⟩
     case measure=>simp [intOf]
   ·have hx:∀ W,(Instr.index 254 (.agg #[.string ⟨#[38,38,38]⟩,.string ⟨#[61,61]⟩,.string ⟨#[33,61]⟩,.string ⟨#[60,61]⟩,.string ⟨#[62,61]⟩,.string ⟨#[60,60]⟩,.string ⟨#[62,62]⟩,.string ⟨#[38,38]⟩,.string ⟨#[124,124]⟩,.string ⟨#[43,43]⟩,.string ⟨#[45,62]⟩]) (.int .i64 7)).run prog W=.ok (.string ⟨#[38,38]⟩) W:=fun _=>by kernel_rfl
    have hm1:=aa (show (if Lib.hasPrefix s.data.toList [38,38] then [38,38] else aL (aD.drop 8) s.data.toList)=aK s.data.toList from hm.out)
    cases hb:Lib.hasPrefix s.data.toList [38,38] with
    |true=>
     have hq:=fun W=>hP.out ⟨#[38,38]⟩ W
     simp only [hb] at hq
     have he:aK s.data.toList= [38,38]:=by rw [←hm1.out,hb];rfl
     replace he:=aa he
     replace hb:=aa hb
     go_wp2_with (go_at_call 182;refine (hq _).mono ?_;rintro e w' ⟨rfl,rfl⟩)
     go_ret
     exact ⟨rfl,.inr ⟨⟨#[38,38]⟩,he.out.symm,by rw [he.out];simp,rfl⟩⟩
    |false=>
     have hq:=fun W=>hP.out ⟨#[38,38]⟩ W
     simp only [hb] at hq
     have he:aL (aD.drop 8) s.data.toList=aK s.data.toList:=by rw [←hm1.out,hb];rfl
     replace he:=aa he
     replace hb:=aa hb
     go_wp2_with (go_at_call 182;refine (hq _).mono ?_;rintro e w' ⟨rfl,rfl⟩)
     go_round
     case rel=>exact ⟨8,by omega,rfl,he⟩
     case measure=>simp [intOf]
   ·have hx:∀ W,(Instr.index 254 (.agg #[.string ⟨#[38,38,38]⟩,.string ⟨#[61,61]⟩,.string ⟨#[33,61]⟩,.string ⟨#[60,61]⟩,.string ⟨#[62,61]⟩,.string ⟨#[60,60]⟩,.string ⟨#[62,62]⟩,.string ⟨#[38,38]⟩,.string ⟨#[124,124]⟩,.string ⟨#[43,43]⟩,.string ⟨#[45,62]⟩]) (.int .i64 8)).run prog W=.ok (.string ⟨#[124,124]⟩) W:=fun _=>by kernel_rfl
    have hm1:=aa (show (if Lib.hasPrefix s.data.toList [124,124] then [124,124] else aL (aD.drop 9) s.data.toList)=aK s.data.toList from hm.out)
    cases hb:Lib.hasPrefix s.data.toList [124,124] with
    |true=>
     have hq:=fun W=>hP.out ⟨#[124,124]⟩ W
     simp only [hb] at hq
     have he:aK s.data.toList= [124,124]:=by rw [←hm1.out,hb];rfl
     replace he:=aa he
     replace hb:=aa hb
     go_wp2_with (go_at_call 182;refine (hq _).mono ?_;rintro e w' ⟨rfl,rfl⟩)
     go_ret
     exact ⟨rfl,.inr ⟨⟨#[124,124]⟩,he.out.symm,by rw [he.out];simp,rfl⟩⟩
    |false=>
     have hq:=fun W=>hP.out ⟨#[124,124]⟩ W
     simp only [hb] at hq
     have he:aL (aD.drop 9) s.data.toList=aK s.data.toList:=by rw [←hm1.out,hb];rfl
     replace he:=aa he
     replace hb:=aa hb
     go_wp2_with (go_at_call 182;refine (hq _).mono ?_;rintro e w' ⟨rfl,rfl⟩)
     go_round
     case rel=>exact ⟨9,by omega,rfl,he⟩
     case measure=>simp [intOf]
   ·have hx:∀ W,(Instr.index 254 (.agg #[.string ⟨#[38,38,38]⟩,.string ⟨#[61,61]⟩,.string ⟨#[33,61]⟩,.string ⟨#[60,61]⟩,.string ⟨#[62,61]⟩,.string ⟨#[60,60]⟩,.string ⟨#[62,62]⟩,.string ⟨#[38,38]⟩,.string ⟨#[124,124]⟩,.string ⟨#[43,43]⟩,.string ⟨#[45,62]⟩]) (.int .i64 9)).run prog W=.ok (.string ⟨#[43,43]⟩) W:=fun _=>by kernel_rfl
    have hm1:=aa (show (if Lib.hasPrefix s.data.toList [43,43] then [43,43] else aL (aD.drop 10) s.data.toList)=aK s.data.toList from hm.out)
    cases hb:Lib.hasPrefix s.data.toList [43,43] with
    |true=>
     have hq:=fun W=>hP.out ⟨#[43,43]⟩ W
     simp only [hb] at hq
     have he:aK s.data.toList= [43,43]:=by rw [←hm1.out,hb];rfl
     replace he:=aa he
     replace hb:=aa hb
     go_wp2_with (go_at_call 182;refine (hq _).mono ?_;rintro e w' ⟨rfl,rfl⟩)
     go_ret
     exact ⟨rfl,.inr ⟨⟨#[43,43]⟩,he.out.symm,by rw [he.out];simp,rfl⟩⟩
    |false=>
     have hq:=fun W=>hP.out ⟨#[43,43]⟩ W
     simp only [hb] at hq
     have he:aL (aD.drop 10) s.data.toList=aK s.data.toList:=by rw [←hm1.out,hb];rfl
     replace he:=aa he
     replace hb:=aa hb
     go_wp2_with (go_at_call 182;refine (hq _).mono ?_;rintro e w' ⟨rfl,rfl⟩)
     go_round
     case rel=>exact ⟨10,by omega,rfl,he⟩
     case measure=>simp [intOf]
   ·have hx:∀ W,(Instr.index 254 (.agg #[.string ⟨#[38,38,38]⟩,.string ⟨#[61,61]⟩,.string ⟨#[33,61]⟩,.string ⟨#[60,61]⟩,.string ⟨#[62,61]⟩,.string ⟨#[60,60]⟩,.string ⟨#[62,62]⟩,.string ⟨#[38,38]⟩,.string ⟨#[124,124]⟩,.string ⟨#[43,43]⟩,.string ⟨#[45,62]⟩]) (.int .i64 10)).run prog W=.ok (.string ⟨#[45,62]⟩) W:=fun _=>by kernel_rfl
    have hm1:=aa (show (if Lib.hasPrefix s.data.toList [45,62] then [45,62] else aL (aD.drop 11) s.data.toList)=aK s.data.toList from hm.out)
    cases hb:Lib.hasPrefix s.data.toList [45,62] with
    |true=>
     have hq:=fun W=>hP.out ⟨#[45,62]⟩ W
     simp only [hb] at hq
     have he:aK s.data.toList= [45,62]:=by rw [←hm1.out,hb];rfl
     replace he:=aa he
     replace hb:=aa hb
     go_wp2_with (go_at_call 182;refine (hq _).mono ?_;rintro e w' ⟨rfl,rfl⟩)
     go_ret
     exact ⟨rfl,.inr ⟨⟨#[45,62]⟩,he.out.symm,by rw [he.out];simp,rfl⟩⟩
    |false=>
     have hq:=fun W=>hP.out ⟨#[45,62]⟩ W
     simp only [hb] at hq
     have he:aL (aD.drop 11) s.data.toList=aK s.data.toList:=by rw [←hm1.out,hb];rfl
     replace he:=aa he
     replace hb:=aa hb
     go_wp2_with (go_at_call 182;refine (hq _).mono ?_;rintro e w' ⟨rfl,rfl⟩)
     go_round
     case rel=>exact ⟨11,by omega,rfl,he⟩
     case measure=>simp [intOf]
  ·have hke:k=11:=by omega
   subst hke
   have hm2:(if 0≤Lib.indexByte dN s[0] then s.data.toList.take 1 else [])=aK s.data.toList:=by rw [←hm.out,←uO h0];rfl
   have hne:s.data.toList.take 1≠ []:=by rw [←gu,uN h0];simp
   have hC':Hid (∀ W,Calls prog 209 #[.string ⟨#[123,125,40,41,91,93,59,58,44,61,60,62,43,45,38,124,94,126,33,46,47]⟩,.string (s.extract 0 1)] W fun e w'=>e=.returned (.bool (decide (0≤Lib.indexByte dN s[0])))∧w'=W):=hC
   by_cases hin:0≤Lib.indexByte dN s[0]
   ·rw [if_pos hin] at hm2
    rw [decide_eq_true hin] at hC'
    replace hin:=aa hin
    replace hm2:=aa hm2
    go_wp2_with (go_at_call 209;refine (hC'.out _).mono ?_;rintro e w' ⟨rfl,rfl⟩)
    go_ret
    exact ⟨rfl,.inr ⟨s.extract 0 1,by rw [gu,hm2.out],by rw [←hm2.out];exact hne,rfl⟩⟩
   ·rw [if_neg hin] at hm2
    rw [decide_eq_false hin] at hC'
    replace hin:=aa hin
    replace hm2:=aa hm2
    go_wp2_with (go_at_call 209;refine (hC'.out _).mono ?_;rintro e w' ⟨rfl,rfl⟩)
    exact ⟨rfl,rfl,.inl ⟨hm2.out.symm,rfl⟩⟩
end
theorem nZ (x y c:Nat) (hc:c≤1) (w:World):(callFunc 253 #[.int .u64 x,.int .u64 y,.int .u64 c]).run prog w=
   .ok (.value (.tuple #[.int .u64 (((x+y+c) % 18446744073709551616:Nat):Int),.int .u64 (((x+y+c) / 18446744073709551616:Nat):Int)])) w:=by
 rw [run_callFunc_extern func253 (by kernel_rfl) (by kernel_rfl) (by kernel_rfl) (e:=add64Entry) (by kernel_rfl),run_add64 x y c (by omega) (by omega) (by omega) (by omega)]
 simp only [Result.andThen]
 congr 5<;>omega
def jS (H L b d:Nat):Nat:=(H*18446744073709551616+L)*b+d
theorem wK (H L b d:Nat) (hH:H<18446744073709551616) (hL:L<18446744073709551616) (hb:b≤16) (hd:d<18446744073709551616) (w:World):
  Calls prog 231 #[.agg #[.int .u64 H,.int .u64 L],.int .u64 b,.int .u64 d] w fun e w'=>e=.returned (.tuple #[.agg #[.int .u64 ((jS H L b d / 18446744073709551616 % 18446744073709551616:Nat):Int),.int .u64 ((jS H L b d % 18446744073709551616:Nat):Int)],.bool (decide (jS H L b d<340282366920938463463374607431768211456))])∧Below w.heap.size w w':=by
 obtain ⟨wa,hwa,hsa,hba,hca,-⟩:=af w #[.int .u64 (H:Int),.int .u64 (L:Int)] 96
 obtain ⟨wb,hwb,hsb,hbb,hcb,hfb⟩:=af wa #[.int .u64 0,.int .u64 0] 96
 have hw:=aa (hba.trans (hbb.mono (by omega)))
 have x0:wb.cell? ⟨w.heap.size,0,none⟩=some (.int .u64 H):=(bj hbb w.heap.size 0 (by omega)).trans (hca 0)
 have x1:wb.cell? ⟨w.heap.size,1,none⟩=some (.int .u64 L):=(bj hbb w.heap.size 1 (by omega)).trans (hca 1)
 have z0:wb.cell? ⟨wa.heap.size,0,none⟩=some (.int .u64 0):=hcb 0
 have z1:wb.cell? ⟨wa.heap.size,1,none⟩=some (.int .u64 0):=hcb 1
 have f0:=hfb 0
 have f1:=hfb 1
 have hle:w.heap.size≤wa.heap.size:=by omega
 have hl1:w.heap.size<wb.heap.size:=by omega
 have hl2:wa.heap.size<wb.heap.size:=by omega
 have hM1:=aa (fun W=>Tryz.bits_Mul64 L b hL (by omega) W)
 have hM2:=aa (fun W=>Tryz.bits_Mul64 H b hH (by omega) W)
 have hT:=aa (show jS H L b d=H*b*18446744073709551616+L*b+d from by unfold jS;rw [Nat.add_mul,Nat.mul_right_comm])
 have hLb:L*b≤L*16:=Nat.mul_le_mul_left _ hb
 have hHb:H*b≤H*16:=Nat.mul_le_mul_left _ hb
 generalize hQ:L*b=Q at hM1 hT hLb
 generalize hP:H*b=P at hM2 hT hHb
 generalize jS H L b d=T at hT ⊢
 obtain ⟨cr,hcr⟩:∃ cr,cr=Q / 18446744073709551616:=⟨_,rfl⟩
 obtain ⟨lo,hlo⟩:∃ lo,lo=Q % 18446744073709551616:=⟨_,rfl⟩
 obtain ⟨ov,hov⟩:∃ ov,ov=P / 18446744073709551616:=⟨_,rfl⟩
 obtain ⟨hi,hhi⟩:∃ hi,hi=P % 18446744073709551616:=⟨_,rfl⟩
 rw [←hcr,←hlo] at hM1
 rw [←hov,←hhi] at hM2
 have hA1:=fun W=>nZ lo d 0 (by omega) W
 obtain ⟨l2,hl2'⟩:∃ l2,l2=(lo+d+0) % 18446744073709551616:=⟨_,rfl⟩
 obtain ⟨cc,hcc⟩:∃ cc,cc=(lo+d+0) / 18446744073709551616:=⟨_,rfl⟩
 rw [←hl2',←hcc] at hA1
 have hA2:=fun W=>nZ hi cr cc (by omega) W
 obtain ⟨h2,hh2⟩:∃ h2,h2=(hi+cr+cc) % 18446744073709551616:=⟨_,rfl⟩
 obtain ⟨c2,hc2⟩:∃ c2,c2=(hi+cr+cc) / 18446744073709551616:=⟨_,rfl⟩
 rw [←hh2,←hc2] at hA2
 have e1:l2=T % 18446744073709551616:=by rw [hT.out];omega
 have e2:h2=T / 18446744073709551616 % 18446744073709551616:=by rw [hT.out];omega
 have e3:decide (T<340282366920938463463374607431768211456)=(decide ((ov:Int)=0)&&decide ((c2:Int)=0)):=by
  rw [hT.out,HF]
  simp only [Hy,decide_eq_true_eq]
  omega
 rw [←e1,←e2,e3]
 clear e1 e2 e3 hcr hlo hov hhi hl2' hcc hh2 hc2 hLb hHb hQ hP hT
 replace hsa:=aa hsa
 replace hsb:=aa hsb
 clear hca hcb hba hbb hfb
 have hA1':∀ W,(callFunc 253 #[.int .u64 (lo:Int),.int .u64 (d:Int),.int .u64 0]).run prog W=.ok (.value (.tuple #[.int .u64 (l2:Int),.int .u64 (cc:Int)])) W:=hA1
 have hfin:=aa (show ∀ v v',Below w.heap.size w ((wb.setCell ⟨wa.heap.size,0,none⟩ v).setCell ⟨wa.heap.size,1,none⟩ v') from fun v v'=>(hw.out.setCell (p:=⟨wa.heap.size,0,none⟩) hle _).setCell (p:=⟨wa.heap.size,1,none⟩) hle _)
 clear hA1 hw hle
 have key:∀ (p1 p2:Bool),((ov:Int)==0)=p1→((c2:Int)==0)=p2→Calls prog 231 #[.agg #[.int .u64 H,.int .u64 L],.int .u64 b,.int .u64 d] w fun e w'=>e=.returned (.tuple #[.agg #[.int .u64 (h2:Int),.int .u64 (l2:Int)],.bool (p1&&p2)])∧Below w.heap.size w w':=by
  intro p1 p2 q1 q2
  cases p1<;>cases p2
  all_goals
   go_enter func231,ntmps231
   go_wp2_with (go_at_call 252;first|((with_reducible refine (hM1.out _).mono ?_);rintro e w' ⟨rfl,rfl⟩)|((with_reducible refine (hM2.out _).mono ?_);rintro e w' ⟨rfl,rfl⟩))
   refine bodyPost_ret (v:=.tuple #[.agg #[.int .u64 (h2:Int),.int .u64 (l2:Int)],.bool _]) (by simp [results,results231,go_sem,z0,z1]) rfl ⟨rfl,hfin.out _ _⟩
 have h:=key _ _ rfl rfl
 have e:((ov:Int)==0&&(c2:Int)==0)=(decide ((ov:Int)=0)&&decide ((c2:Int)=0)):=rfl
 rw [e] at h
 exact h
theorem n9 {n:Nat} {wz W:World} (h:Below n wz W):Below n wz W∧∀ b o,b<n→W.cell? ⟨b,o,none⟩=wz.cell? ⟨b,o,none⟩:=⟨h,(ae h).1⟩
theorem bK {B g:Nat} {a w:World} (h:Below B a w) (hg:B≤g) (v0 v1:Value):Below B a ((w.setCell ⟨g,0,none⟩ v0).setCell ⟨g,1,none⟩ v1):=(h.setCell (p:=⟨g,0,none⟩) hg _).setCell (p:=⟨g,1,none⟩) hg _
theorem zV (hex:Bool) (t:ByteArray) (w:World) (ht:t.size≤9223372036854775807):Calls prog 230 #[.string t,.string ⟨(aM hex).toArray⟩] w fun e w'=>e=.returned (.string ⟨(Lib.trimS t.data.toList (aM hex)).toArray⟩)∧Below w.heap.size w w':=by
 have h:=Any.strings_Trim_laid Tryz.lays160 (by kernel_rfl) t ⟨(aM hex).toArray⟩ w ht (by cases hex<;>decide) (by
  intro j b hb
  have hm:b∈aM hex:=List.mem_of_getElem? hb
  have:∀ c∈aM hex,c.toNat<128:=by cases hex<;>decide
  exact this b hm)
 exact h
theorem lZ (s:ByteArray) (w:World) (hs:s.size≤2000000) (hascii:∀ c∈s.data.toList,c.toNat<128):
  Calls prog 211 #[.string s] w fun e w'=>e=.returned (jA (eK s.data.toList))∧Below w.heap.size w w':=by
 obtain ⟨wa,hwa,hsa,hba,hca,hfa⟩:=af w #[.int .u64 0,.int .u64 0] 96
 have hC:=fun W=>Tryz.strings_CutPrefix s ⟨#[48,120]⟩ W
 obtain ⟨hex,hhex⟩:∃ hex,hex=Lib.hasPrefix s.data.toList [48,120]:=⟨_,rfl⟩
 obtain ⟨r,hr⟩:∃ r,r=(if hex then Lib.toLowerA (s.data.toList.drop 2) else s.data.toList):=⟨_,rfl⟩
 have hpar:eK s.data.toList=(if r= [] then .error 4 else if r.all (fun c=>(aM hex).contains c) then (if (dW hex r).2 then .ok (dW hex r).1 else .error 5) else .error 4):=by rw [hr,hhex];rfl
 obtain ⟨RES,hRES⟩:∃ RES,RES=eK s.data.toList:=⟨_,rfl⟩
 rw [←hRES]
 rw [hpar] at hRES
 replace hRES:=aa hRES
 have hC':Hid (∀ W,Calls prog 228 #[.string s,.string ⟨#[48,120]⟩] W fun e w'=>e=.returned (.tuple #[.string ⟨(Lib.trimPrefix s.data.toList [48,120]).toArray⟩,.bool hex])∧W=w'):=by rw [hhex];exact aa fun W=>(hC W).mono fun _ _ h=>⟨h.1,h.2.symm⟩
 have hrl:r.length≤2000000:=by
  have hsz:=Lib.size_eq s
  rw [hr]
  cases hex
  ·simp only [H2,if_false];omega
  ·simp only [if_true,Lib.toLowerA,H4,HR];omega
 clear hpar hC
 have hgo:=aa (fun W (hW:Below wa.heap.size wa W)=>hba.trans (hW.mono hba.size))
 replace hsa:=aa hsa
 replace hhex:=aa hhex
 replace hr:=aa hr
 have z0:=hca 0
 have z1:=hca 1
 have f0:=hfa 0
 have f1:=hfa 1
 have hla:w.heap.size<wa.heap.size:=by have:=hsa.out;omega
 simp at z0 z1
 clear hca hfa hba
 go_enter func211,ntmps211
 go_upto_if 19 with (go_at_call 228;refine (hC'.out _).mono ?_;rintro e w' ⟨rfl,rfl⟩)
 go_cut [0,4,5] (fun tv dv bv wx=>∃ t:ByteArray,tv=.string t∧dv=.string ⟨(aM hex).toArray⟩∧bv=.int .u64 (dI hex:Int)∧Hid (t.data.toList=r)∧Hid (Below wa.heap.size wa wx))
 case first=>
  cases hex with
  |false=>
   go_wp2
   go_meet
   exact ⟨s,rfl,rfl,rfl,aa hr.out.symm,aa (Hs _ _)⟩
  |true=>
   have ht:Lib.trimPrefix s.data.toList [48,120]=s.data.toList.drop 2:=by unfold Lib.trimPrefix;rw [←hhex.out];rfl
   have hL0:=(Tryz.strings_ToLower_ascii ⟨(s.data.toList.drop 2).toArray⟩ wa (by
    show (s.data.toList.drop 2).toArray.size≤_
    have:=Lib.size_eq s
    simp only [List.size_toArray,HR];omega) (fun j b hb=>hascii b (List.mem_of_mem_drop (List.mem_of_getElem? hb))))
   have hL:Hid (Calls prog 229 #[.string ⟨(Lib.trimPrefix s.data.toList [48,120]).toArray⟩] wa fun e w'=>e=.returned (.string ⟨(Lib.toLowerA (s.data.toList.drop 2)).toArray⟩)∧Below wa.heap.size wa w'):=by rw [ht];exact aa hL0
   clear hL0 ht
   go_wp2_with (go_at_call 229;refine hL.out.mono ?_;rintro e w4 ⟨rfl,hb4⟩)
   go_meet
   exact ⟨_,rfl,rfl,rfl,aa hr.out.symm,aa hb4⟩
 case rest=>
  obtain ⟨t,rfl,rfl,rfl,htr,hb1⟩:=hcut
  obtain ⟨w1,rfl⟩:∃ w1:World,w1=wc:=⟨_,rfl⟩
  have htz:t.size≤2000000:=by rw [Lib.size_eq,htr.out];exact hrl
  have hT:=aa (zV hex t w1 (by omega))
  rw [htr.out] at hT
  have hb1z:=hb1.out.size
  have hl1:=Hr hla hb1z
  have kk:=ae hb1.out
  have z0':=(kk.1 _ 0 hla).trans z0
  have z1':=(kk.1 _ 1 hla).trans z1
  have f0':=(kk.2 _ 0 hla).trans f0
  have f1':=(kk.2 _ 1 hla).trans f1
  clear kk z0 z1 f0 f1
  have hbad:∀ W n,RES=.error n→Below wa.heap.size wa W→jA RES=.tuple #[.agg #[.int .u64 0,.int .u64 0],.int .i64 n]∧∀ v v',Below w.heap.size w ((W.setCell ⟨w.heap.size,0,none⟩ v).setCell ⟨w.heap.size,1,none⟩ v'):=fun W n h hW=>⟨by rw [h];rfl,fun v v'=>((hgo.out W hW).setCell (p:=⟨w.heap.size,0,none⟩) (Ht _) _).setCell (p:=⟨w.heap.size,1,none⟩) (Ht _) _⟩
  replace hbad:=aa hbad
  by_cases hr0:r= []
  ·have hem:t.toList.isEmpty=true:=by rw [Lib.toList_data,htr.out,hr0];rfl
   have hR:RES=.error 4:=by rw [hRES.out,if_pos hr0]
   replace hR:=aa hR
   have hB:=hbad.out w1 4 hR.out hb1.out
   replace hb1:=aa hb1
   go_wp2
   exact bodyPost_ret (v:=.tuple #[.agg #[.int .u64 0,.int .u64 0],.int .i64 4]) (by simp [results,results211,go_sem,z0',z1']) rfl ⟨by rw [hB.1],hB.2 _ _⟩
  ·have hem:t.toList.isEmpty=false:=by rw [Lib.toList_data,htr.out];cases r with|nil=>exact absurd rfl hr0|cons _ _=>rfl
   have hnil:=we r (aM hex)
   cases hall:r.all (fun c=>(aM hex).contains c) with
   |false=>
    have hR:RES=.error 4:=by rw [hRES.out,if_neg hr0,hall,if_neg (by simp)]
    have hB:=aa (fun W=>hbad.out W 4 hR)
    have hTn:¬(⟨(Lib.trimS r (aM hex)).toArray⟩:ByteArray).toList= []:=by
     rw [Lib.toList_data]
     intro h
     have:=hnil.1 (by simpa using h)
     rw [hall] at this;cases this
    have hTb:((⟨(Lib.trimS r (aM hex)).toArray⟩:ByteArray).toList== [])=false:=beq_eq_false_iff_ne.2 hTn
    have hTe:(⟨(Lib.trimS r (aM hex)).toArray⟩:ByteArray).toList.isEmpty=false:=by
     cases h:(⟨(Lib.trimS r (aM hex)).toArray⟩:ByteArray).toList.isEmpty with
     |false=>rfl
     |true=>exact absurd (List.isEmpty_iff.1 h) hTn
    clear hbad hnil hRES hR
    generalize (⟨(Lib.trimS r (aM hex)).toArray⟩:ByteArray)=tt at hT hTn hTb hTe
    go_wp2_with (go_at_call 230;refine hT.out.mono ?_;rintro e w2 ⟨rfl,hb2⟩;have kb2:=ae hb2;have q2:=Hr hl1 hb2.size;have k0:=(kb2.1 _ 0 hl1).trans z0';have k1:=(kb2.1 _ 1 hl1).trans z1';have g0:=(kb2.2 _ 0 hl1).trans f0';have g1:=(kb2.2 _ 1 hl1).trans f1')
    have hB2:=hB.out w2 (hb1.out.trans (hb2.mono hb1z))
    exact bodyPost_ret (v:=.tuple #[.agg #[.int .u64 0,.int .u64 0],.int .i64 4]) (by simp [results,results211,go_sem,k0,k1]) rfl ⟨by rw [hB2.1],hB2.2 _ _⟩
   |true=>
    have hTn:(⟨(Lib.trimS r (aM hex)).toArray⟩:ByteArray).toList= []:=by
     rw [Lib.toList_data,hnil.2 hall]
    have hTe:(⟨(Lib.trimS r (aM hex)).toArray⟩:ByteArray).toList.isEmpty=true:=by rw [hTn];rfl
    have hTb:((⟨(Lib.trimS r (aM hex)).toArray⟩:ByteArray).toList== [])=true:=by rw [hTn];rfl
    have hR:RES=if (dW hex r).2 then .ok (dW hex r).1 else .error 5:=by rw [hRES.out,if_neg hr0,hall,if_pos rfl]
    replace hR:=aa hR
    clear hbad hnil hRES
    generalize (⟨(Lib.trimS r (aM hex)).toArray⟩:ByteArray)=tt at hT hTn hTb hTe
    go_wp2_with (go_at_call 230;refine hT.out.mono ?_;rintro e w2 ⟨rfl,hb2⟩;have kb2:=ae hb2;have q2:=Hr hl1 hb2.size;have k0:=(kb2.1 _ 0 hl1).trans z0';have k1:=(kb2.1 _ 1 hl1).trans z1';have g0:=(kb2.2 _ 0 hl1).trans f0';have g1:=(kb2.2 _ 1 hl1).trans f1')
    have hq:=aa (show dY w2 w.heap.size 0 0 from ⟨q2,k0,k1,g0,g1⟩)
    have hbw:=aa (hgo.out w2 (hb1.out.trans (hb2.mono hb1z)))
    have hdg:=aa (fun (k:Nat) (hk:k<t.size)=>show (t[k].toNat<128)∧∃ d:Nat,Lib.indexByte (aM hex) t[k]=(d:Int)∧d<16∧(dW hex (r.take (k+1)))=((((dW hex (r.take k)).1*dI hex+d) % da),(dW hex (r.take k)).2&&decide ((dW hex (r.take k)).1*dI hex+d<da)) from by
     have hlr:k<r.length:=by rw [←htr.out,←Lib.size_eq];exact hk
     have e:r[k]=t[k]:=by
      have:r[k]? =some t[k]:=by rw [←htr.out,HA (by rw [←Lib.size_eq];exact hk)];rfl
      rw [HA hlr] at this
      injection this
     have hin:(aM hex).contains r[k]=true:=(HT.1 hall) _ (HE hlr)
     have hmem:r[k]∈aM hex:=by simpa using hin
     have hd:=DW hmem
     have h128:∀ c∈aM hex,c.toNat<128:=by cases hex<;>decide
     have hb16:dI hex≤16:=by cases hex<;>decide
     refine ⟨by rw [←e];exact h128 _ hmem,EE hex r[k],by rw [←e];exact hd.1,by omega,?_⟩
     rw [vZ hex r hlr]
     rfl)
    have hb16:dI hex≤16:=by cases hex<;>decide
    have hrt:r.take t.size=r:=H6 (by rw [←htr.out,←Lib.size_eq];exact Ht _)
    have htl:t.size≤9223372036854775807:=by omega
    clear kb2 hT hTn hTb hTe hem hr hhex z0' z1' f0' f1' k0 k1 g0 g1 hb1 hb2 hb1z hl1 hrl hall hC' hgo
    replace hrt:=aa hrt
    go_loopw [9] (fun f wr=>∃ k:Nat,k≤t.size∧f=.bool (dW hex (r.take k)).2∧Hid (wr.heap[w2.heap.size+1]? =some (.stringIter t k))∧Hid (dY wr w.heap.size 0 0)∧Hid (dY wr w2.heap.size (((dW hex (r.take k)).1 / 18446744073709551616:Nat):Int) (((dW hex (r.take k)).1 % 18446744073709551616:Nat):Int))∧Hid (Below w.heap.size w wr)) (fun _ wr=>t.size-wr.iterPos (w2.heap.size+1))
    case atStart=>
     have hbn:=dY.new w2 0 0 96
     refine ⟨0,Hz _,rfl,?_,?_,?_,?_⟩
     ·have:=World.iter_heap (w2.alloc (.cells #[.int .u64 0,.int .u64 0] 96)) t 0
      exact aa (by simpa using this)
     ·exact aa ((hq.out.alloc _).alloc _)
     ·rw [show dW hex (r.take 0)=(0,true) from rfl]
      exact aa (by have:=hbn.alloc (.stringIter t 0);simp only [Nat.zero_div,Nat.zero_mod];exact this)
     ·exact aa ((hbw.out.alloc hbw.out.size _).alloc (by have:=hbw.out.size;simp;omega) _)
    case round=>
     clear hq hbw
     obtain ⟨k,hk,rfl,hit,hq,hnb,hbw⟩:=hrel
     by_cases hlt:k<t.size
     ·obtain ⟨hasc,d,hdi,hd16,hacc⟩:=hdg.out k hlt
      have hnx:∀ ty,(Instr.next (.pointer (some ⟨w2.heap.size+1,0,none⟩)) true ty).run prog wr=_:=fun ty=>Lib.run_next_ascii_at wr (w2.heap.size+1) t k ty hit.out hlt hasc
      have hit2:=aa (Lib.iterAt_heap wr (w2.heap.size+1) t k (k+1) hit.out)
      obtain ⟨wz,hwz⟩:∃ wz,wr.iterAt (w2.heap.size+1) t (k+1)=wz:=⟨_,rfl⟩
      have hbk:Below (w2.heap.size+1) wr wz:=by rw [←hwz];exact Lib.below_iterAt (Hs _ _) (Ht _) _ _
      rw [hwz] at hnx hit2
      have hq2:=aa (hq.out.below hbk (by have:=hq.out.lt;omega))
      have hnb2:=aa (hnb.out.below hbk (by omega))
      have hbz:=aa (hbw.out.trans (hbk.mono (by omega)))
      have hKlt:w2.heap.size+1<wz.heap.size:=(Ir.1 hit2.out).1
      have hn:=uP hex (r.take k)
      obtain ⟨n,hne⟩:∃ n,n=(dW hex (r.take k)).1:=⟨_,rfl⟩
      obtain ⟨ok,hok⟩:∃ ok,ok=(dW hex (r.take k)).2:=⟨_,rfl⟩
      rw [←hne,←hok] at hacc
      rw [←hne] at hn hnb2
      rw [←hok]
      have hT0:=fun W=>wK (n / 18446744073709551616) (n % 18446744073709551616) (dI hex) d (by unfold da at hn;omega) (by omega) hb16 (by omega) W
      have hnv:jS (n / 18446744073709551616) (n % 18446744073709551616) (dI hex) d=n*dI hex+d:=by unfold jS;congr 2;omega
      rw [hnv] at hT0
      obtain ⟨zh,hzh⟩:∃ zh,zh=(((n*dI hex+d) / 18446744073709551616 % 18446744073709551616:Nat):Int):=⟨_,rfl⟩
      obtain ⟨zl,hzl⟩:∃ zl,zl=(((n*dI hex+d) % 18446744073709551616:Nat):Int):=⟨_,rfl⟩
      obtain ⟨fit,hfit⟩:∃ fit,fit=decide (n*dI hex+d<da):=⟨_,rfl⟩
      rw [←hzh,←hzl] at hT0
      have hA1:=aa (show (((dW hex (r.take (k+1))).1 / 18446744073709551616:Nat):Int)=zh from by rw [hacc,hzh];show (((n*dI hex+d) % da / 18446744073709551616:Nat):Int)=_;unfold da;omega)
      have hA2:=aa (show (((dW hex (r.take (k+1))).1 % 18446744073709551616:Nat):Int)=zl from by rw [hacc,hzl];show (((n*dI hex+d) % da % 18446744073709551616:Nat):Int)=_;unfold da;omega)
      have hA3:=aa (show (dW hex (r.take (k+1))).2=(ok&&fit) from by rw [hacc,hfit])
      have hT1:∀ W,Calls prog 231 #[.agg #[.int .u64 ((n / 18446744073709551616:Nat):Int),.int .u64 ((n % 18446744073709551616:Nat):Int)],.int .u64 (dI hex:Int),.int .u64 (d:Int)] W fun e w'=>e=.returned (.tuple #[.agg #[.int .u64 zh,.int .u64 zl],.bool fit])∧Below W.heap.size W w':=fun W=>by rw [hfit];exact hT0 W
      clear hT0 hnv hzh hzl hfit hacc hne hok hn
      generalize ((n / 18446744073709551616:Nat):Int)=nh at hT1 hnb2
      generalize ((n % 18446744073709551616:Nat):Int)=nl at hT1 hnb2
      have hTm:=aa (fun (W:World) (hW:Below wz.heap.size wz W)=>(hT1 W).mono fun e w' h=>(⟨h.1,hW.trans (h.2.mono hW.size),h.2⟩:_∧Below wz.heap.size wz w'∧Below W.heap.size W w'))
      have hIR:=aa (fun (W:World)=>show Calls prog 232 #[.string ⟨(aM hex).toArray⟩,.int .i32 ((t[k].toNat:Nat):Int)] W fun e w'=>e=.returned (.int .i64 (d:Int))∧w'=W from by
       have:=Tryz.strings_IndexRune_ascii ⟨(aM hex).toArray⟩ ((t[k].toNat:Nat):Int) W (by omega) (by omega)
       rw [show ((t[k].toNat:Nat):Int).toNat.toUInt8=t[k] from by simp] at this
       rw [←hdi];exact this)
      have hwr:IntKind.u64.wrap (d:Int)=d:=IntWalk.u64_in _ (by omega)
      obtain ⟨hgl,n0,n1,e0,e1⟩:=hnb2.out
      clear hT1 hdg hdi hbk hbw hnb hq
      go_upto_region 12 with fail
      go_cut [12,13] (fun sp bv wx=>∃ g,sp=.pointer (some ⟨g,0,none⟩)∧bv=.bool fit∧wz.heap.size≤g∧Hid (dY wx g zh zl)∧Hid (Below wz.heap.size wz wx))
      case first=>
       go_region_held3 (fun w'=>Below wz.heap.size wz w'∧∀ b o,b<wz.heap.size→w'.cell? ⟨b,o,none⟩=wz.cell? ⟨b,o,none⟩) (first|exact n9 (Hs _ _).drew|exact n9 ((Hs _ _).drew.alloc (Ht _) _)|exact n9 hb3|exact n9 (hb3.alloc hb3.size _)|exact n9 (bK (hb3.alloc hb3.size _) hb3.size _ _)|exact n9 (bK hb3 (Ht _) _ _))
        (first|(go_at_call 232;refine (hIR.out _).mono ?_;rintro e w' ⟨rfl,rfl⟩)|(go_at_call 231;refine (hTm.out _ (by first|exact (Hs _ _).drew|exact (Hs _ _).drew.alloc (Ht _) _)).mono ?_;rintro e w3 ⟨rfl,hb3,hb4⟩;have kb4:=fd hb4))
       all_goals go_wp2
       all_goals go_meet
       all_goals first
        |exact ⟨_,rfl,rfl,hb3.size,aa (dY.new w3 zh zl _),aa (hb3.alloc hb3.size _)⟩
        |exact ⟨_,rfl,rfl,Ht _,aa (((dY.new wz.drew 0 0 96).below hb4 (dY.new wz.drew 0 0 96).lt).set zh zl),aa (bK hb3 (Ht _) _ _)⟩
      case rest=>
       obtain ⟨g,rfl,rfl,hgz,hng,hbx⟩:=hcut
       obtain ⟨wx,rfl⟩:∃ wx:World,wx=wc:=⟨_,rfl⟩
       obtain ⟨hgl2,a0,a1,-,-⟩:=hng.out
       have m5:=hnb2.out.below hbx.out hgl
       obtain ⟨l5,b0,b1,f50,f51⟩:=hnb2.out.below hbx.out hgl
       have hit3:=aa ((hbx.out.block _ hKlt).trans hit2.out)
       have hl0:=hq2.out.lt
       have hF:=aa (⟨by rw [Below.heap_setCell _ _ _ _ (show w2.heap.size+1≠w2.heap.size by omega),Below.heap_setCell _ _ _ _ (show w2.heap.size+1≠w2.heap.size by omega)];exact hit3.out,((hq2.out.below hbx.out hl0).far _ (by omega)).far _ (by omega),m5.set zh zl,bK (hbz.out.trans (hbx.out.mono hbz.out.size)) (HL q2) _ _⟩:((wx.setCell ⟨w2.heap.size,0,none⟩ (.int .u64 zh)).setCell ⟨w2.heap.size,1,none⟩ (.int .u64 zl)).heap[w2.heap.size+1]? =some (.stringIter t (k+1))∧dY ((wx.setCell ⟨w2.heap.size,0,none⟩ (.int .u64 zh)).setCell ⟨w2.heap.size,1,none⟩ (.int .u64 zl)) w.heap.size 0 0∧dY ((wx.setCell ⟨w2.heap.size,0,none⟩ (.int .u64 zh)).setCell ⟨w2.heap.size,1,none⟩ (.int .u64 zl)) w2.heap.size zh zl∧Below w.heap.size w ((wx.setCell ⟨w2.heap.size,0,none⟩ (.int .u64 zh)).setCell ⟨w2.heap.size,1,none⟩ (.int .u64 zl)))
       clear m5 hnb2 hq2 hbz hng hbx hit2 hit3 n0 n1 e0 e1 hnx hTm hIR hwr
       cases ok
       all_goals
        replace hA3:=aa hA3.out
        go_wp2
        go_roundw
        case rel=>exact ⟨k+1,by omega,by rw [hA3.out];rfl,aa hF.out.1,aa hF.out.2.1,aa (by rw [hA1.out,hA2.out];exact hF.out.2.2.1),aa hF.out.2.2.2⟩
        case measure=>
         simp only [World.iterPos,hF.out.1,hit.out]
         omega
     ·obtain rfl:k=t.size:=by omega
      rw [hrt.out] at hnb ⊢
      have hnx:∀ ty,(Instr.next (.pointer (some ⟨w2.heap.size+1,0,none⟩)) true ty).run prog wr=_:=fun ty=>Lib.run_next_end_at wr (w2.heap.size+1) t t.size ty hit.out hlt
      obtain ⟨-,k0,k1,g0,g1⟩:=hq.out
      obtain ⟨-,n0,n1,-,-⟩:=hnb.out
      have hR':=hR.out
      clear hq hnb hit hdg
      cases hv:(dW hex r).2 with
      |true=>
       rw [hv,if_pos rfl] at hR'
       subst hR'
       go_wp2
       exact bodyPost_ret (v:=jA (.ok (dW hex r).1)) (by simp [results,results211,go_sem,k0,k1,jA]) rfl ⟨rfl,bK hbw.out (Ht _) _ _⟩
      |false=>
       rw [hv,if_neg (by simp)] at hR'
       subst hR'
       go_wp2
       exact bodyPost_ret (v:=jA (.error 5)) (by simp [results,results211,go_sem,k0,k1,jA]) rfl ⟨rfl,bK hbw.out (Ht _) _ _⟩
section
structure gV (w:World):Prop where
 m:∃ m,w.cell? ⟨0,0,none⟩=some (.int .i64 m)
 s:∃ ev,w.cell? ⟨1,0,none⟩=some ev∧(ev=.nilIface∨∃ te pe,ev=.iface te pe)
 r:∃ ev,w.cell? ⟨2,0,none⟩=some ev∧(ev=.nilIface∨∃ te pe,ev=.iface te pe)
theorem kJ {w:World} {b o:Nat} {v:Value} (h:w.cell? ⟨b,o,none⟩=some v):b<w.heap.size:=by
 unfold World.cell? at h
 by_cases hb:b<w.heap.size
 ·exact hb
 ·rw [Array.getElem?_eq_none (by show w.heap.size≤b;omega)] at h
  simp at h
theorem gV.below {w w':World} {B:Nat} (h:gV w) (hb:Below B w w') (hB:w.heap.size≤B):gV w':=by
 obtain ⟨⟨m,hm⟩,⟨e1,h1,k1⟩,⟨e2,h2,k2⟩⟩:=h
 exact ⟨⟨m,(hb.cell (p:=⟨0,0,none⟩) (Hr (kJ hm) hB)).trans hm⟩,⟨e1,(hb.cell (p:=⟨1,0,none⟩) (Hr (kJ h1) hB)).trans h1,k1⟩,⟨e2,(hb.cell (p:=⟨2,0,none⟩) (Hr (kJ h2) hB)).trans h2,k2⟩⟩
theorem D7 (s:ByteArray) (w:World) (hs:s.size≤2000000) (hV:gV w):
  Calls prog 210 #[.string s,.int .i64 10,.int .i64 16] w fun e w'=>(∃ (n:Nat) (er:Value),e=.returned (.tuple #[.int .u64 n,er])∧((Lib.parseUintB 16 s.data.toList=.ok n∧er=.nilIface)∨((∀ u,Lib.parseUintB 16 s.data.toList≠ .ok u)∧∃ (T:TypeId) (N:Nat),er=.iface T (.pointer (some ⟨N,0,none⟩)))))∧Below w.heap.size w w':=by
 obtain ⟨-,⟨e1,h1,k1⟩,⟨e2,h2,k2⟩⟩:=hV
 rcases h:Lib.parseUintB 16 s.data.toList with u|_|_
 ·refine (Tryz.strconv_ParseUint_10_at16_ok s (by omega) u h w).mono ?_
  rintro e w' ⟨rfl,hw⟩
  refine ⟨⟨u,.nilIface,rfl,.inl ⟨rfl,rfl⟩⟩,?_⟩
  rcases hw with rfl|rfl
  ·exact Hs _ _
  ·exact Lib.bytesWorld_below _ _ _
 ·refine (Tryz.strconv_ParseUint_10_at16_syntax s (by omega) h e1 w h1 k1).mono ?_
  rintro e w' ⟨N,rfl,-,-,hb⟩
  exact ⟨⟨0,_,rfl,.inr ⟨by simp,_,N,rfl⟩⟩,hb⟩
 ·refine (Tryz.strconv_ParseUint_10_at16_range s (by omega) h e2 w h2 k2).mono ?_
  rintro e w' ⟨N,rfl,-,-,hb⟩
  exact ⟨⟨65535,_,rfl,.inr ⟨by simp,_,N,rfl⟩⟩,hb⟩
def zW:Except Int (Nat×Nat)→Ending
 | .error n=>wJ n
 | .ok x=>.returned (.tuple #[.int .i64 (x.1:Int),.agg #[.int .u64 ((x.2 / 18446744073709551616:Nat):Int),.int .u64 ((x.2 % 18446744073709551616:Nat):Int)]])
theorem qQ (k n:Nat):bJ (k:Int) ((n / 18446744073709551616:Nat):Int) ((n % 18446744073709551616:Nat):Int)=decide (n<2 ^ k):=by
 unfold bJ jM qc
 simp only
 rw [decide_eq_decide,HQ]
 have e:((n / 18446744073709551616:Nat):Int)*18446744073709551616+((n % 18446744073709551616:Nat):Int)=(n:Int):=by omega
 have e2:((2 ^ k:Nat):Int)=(2:Int) ^ k:=by simp
 rw [←e2]
 omega
theorem it {l:List UInt8} {e:Int} (h:eK l=.error e):e=4∨e=5:=by
 unfold eK at h
 simp only at h
 repeat' split at h
 all_goals first
  |(injection h with h;omega)
  |cases h
theorem oa {l:List UInt8} {n:Nat} (h:eK l=.ok n):n<da:=by
 unfold eK at h
 simp only at h
 repeat' split at h
 all_goals first
  |(injection h with h;rw [←h];exact uP _ _)
  |cases h
theorem wL (s:ByteArray) (n:Nat):(⟨(s.data.toList.take n).toArray⟩:ByteArray).size≤s.size:=by
 rw [Lib.size_eq,Lib.size_eq]
 simp
 omega
theorem wM (s:ByteArray) (n:Nat):(⟨(s.data.toList.drop n).toArray⟩:ByteArray).size≤s.size:=by
 rw [Lib.size_eq,Lib.size_eq]
 simp
attribute [local go_sem] run_panic_iface
theorem wO {l:List UInt8} (h:Lib.indexByte l 119= -1):ng l=qx 0 false l:=by
 unfold ng
 rw [h]
 exact if_neg (by decide)
theorem wP {l:List UInt8} {i:Nat} (h:Lib.indexByte l 119=(i:Int)):ng l=if (l.take i).all io&&decide ((l.take i).length≤3) then (if nd (l.take i)<1∨128<nd (l.take i) then .error 10 else qx (nd (l.take i)) true (l.drop (i+1))) else .error 4:=by
 unfold ng
 rw [h]
 exact if_pos (by omega)
attribute [local go_sem] run_panic_iface
theorem qR (s:ByteArray) (w:World) (hs:s.size≤2000000) (hascii:∀ c∈s.data.toList,c.toNat<128) (hV:gV w) (hidx:Lib.indexByte s.data.toList 119= -1):
  Calls prog 186 #[.string s] w fun e w'=>e=zW (ng s.data.toList)∧Below w.heap.size w w':=by
 obtain ⟨wa,hwa,hsa,hba,hca,hfa⟩:=af w #[.int .u64 0,.int .u64 0] 96
 have hq:=aa (show dY wa w.heap.size 0 0 from ⟨by omega,hca 0,hca 1,hfa 0,hfa 1⟩)
 have hVa:=aa (hV.below hba (Ht _))
 have hla:w.heap.size<wa.heap.size:=by omega
 obtain ⟨m,hm⟩:=hVa.out.m
 have hCt:=Tryz.strings_Cut s ⟨#[119]⟩ m wa (by omega) hm
 rw [show (⟨#[119]⟩:ByteArray).data.toList= [119] from rfl,Dw,hidx,if_neg (by decide)] at hCt
 have hfin:=aa (fun W (hW:Below wa.heap.size wa W)=>hba.trans (hW.mono hba.size))
 rw [wO hidx]
 replace hsa:=aa hsa
 clear hca hfa hV hba hm hidx
 replace hCt:=aa (hCt.mono fun e w' h=>(⟨h.1,by obtain ⟨n,hn⟩:=h.2;rw [hn];exact au (Hs _ _) n⟩:_∧Below wa.heap.size wa w'))
 have hpz:=fun W=>lZ s W hs hascii
 obtain ⟨R,hRe⟩:∃ R,R=eK (s).data.toList:=⟨_,rfl⟩
 unfold qx
 rw [←hRe]
 rw [←hRe] at hpz
 cases R with
 |error n=>
  have hn45:=it hRe.symm
  have hn0:¬n=0:=by omega
  have hn0b:(n==0)=false:=beq_eq_false_iff_ne.2 hn0
  have hn0c:(n !=0)=true:=bne_iff_ne.2 hn0
  replace hRe:=aa hRe
  replace hpz:=aa (fun W=>show Calls prog 211 #[.string (s)] W fun e w'=>e=.returned (.tuple #[.agg #[.int .u64 0,.int .u64 0],.int .i64 n])∧Below W.heap.size W w' from hpz W)
  clear hn45
  go_enter func186,ntmps186
  go_wp2_with (first|(go_at_call 28;refine hCt.out.mono ?_;rintro e w1 ⟨rfl,hb1⟩)|(go_at_call 210;refine hPu.out.mono ?_;rintro e w1 ⟨rfl,hb1⟩)|(go_at_call 211;refine (hpz.out _).mono ?_;rintro e w2 ⟨rfl,hb2⟩))
  exact ⟨rfl,rfl,hfin.out _ ((hb1.trans (hb2.mono hb1.size)).alloc (Hw hb1.size hb2.size) _)⟩
 |ok n=>
  have hnl:=oa hRe.symm
  replace hRe:=aa hRe
  have hF:=qQ (0) n
  obtain ⟨nh,hnh⟩:∃ nh,nh=((n / 18446744073709551616:Nat):Int):=⟨_,rfl⟩
  obtain ⟨nl,hnl2⟩:∃ nl,nl=((n % 18446744073709551616:Nat):Int):=⟨_,rfl⟩
  have u1:aW nh:=⟨by omega,by unfold da at hnl;omega⟩
  have u2:aW nl:=⟨by omega,by omega⟩
  rw [←hnh,←hnl2] at hF
  replace hpz:=aa (fun W=>show Calls prog 211 #[.string (s)] W fun e w'=>e=.returned (.tuple #[.agg #[.int .u64 nh,.int .u64 nl],.int .i64 0])∧Below W.heap.size W w' from by rw [hnh,hnl2];exact hpz W)
  have hFt:=aa (fun W=>cA nh nl ((0:Nat):Int) W ⟨u1,u2⟩)
  rw [hF] at hFt
  have hend:=aa (show zW (.ok (0,n))=.returned (.tuple #[.int .i64 ((0:Nat):Int),.agg #[.int .u64 nh,.int .u64 nl]]) from by rw [hnh,hnl2];rfl)
  clear u1 u2 hnh hnl2 hF hnl
  generalize decide (n<2 ^ (0))=ft at hFt
  clear hFt
  rw [show zD 0 false (.ok n)=.ok (0,n) from rfl,hend.out]
  go_enter func186,ntmps186
  go_upto_region 17 with (first|(go_at_call 28;refine hCt.out.mono ?_;rintro e w1 ⟨rfl,hb1⟩)|(go_at_call 211;refine (hpz.out _).mono ?_;rintro e w2 ⟨rfl,hb2⟩;obtain ⟨w3,hw3,hs3,hb3,hc3,hf3⟩:=af w2 #[.int .u64 nh,.int .u64 nl] 96;have x0:=hc3 0;have x1:=hc3 1;replace hs3:=aa hs3))
  have hb12:=hb1.trans (hb2.mono hb1.size)
  have hb13:=hb12.trans (hb3.mono hb12.size)
  have hs3':=hs3.out
  have hl3:w2.heap.size<w3.heap.size:=by omega
  obtain ⟨ql,q0,q1,e0,e1⟩:=hq.out.below hb13 hla
  simp at x0 x1
  have hfx:=aa (hfin.out _ hb13)
  clear hs3' hb1 hb2 hb3 hb12 hb13 hc3 hf3
  go_region
  all_goals
   go_wp2
   exact bodyPost_ret (v:=.tuple #[.int .i64 _,.agg #[.int .u64 nh,.int .u64 nl]]) (by simp [results,results186,go_sem,q0,q1,ql]) rfl ⟨rfl,(by first|exact (bK hfx.out (Ht _) _ _).drew|exact bK hfx.out (Ht _) _ _)⟩
theorem qS (s:ByteArray) (w:World) (hs:s.size≤2000000) (hascii:∀ c∈s.data.toList,c.toNat<128) (hV:gV w) (i:Nat) (hidx:Lib.indexByte s.data.toList 119=(i:Int)) (hi:s.data.toList.take i≠ []):
  Calls prog 186 #[.string s] w fun e w'=>e=zW (ng s.data.toList)∧Below w.heap.size w w':=by
 obtain ⟨wa,hwa,hsa,hba,hca,hfa⟩:=af w #[.int .u64 0,.int .u64 0] 96
 have hq:=aa (show dY wa w.heap.size 0 0 from ⟨by omega,hca 0,hca 1,hfa 0,hfa 1⟩)
 have hVa:=aa (hV.below hba (Ht _))
 have hla:w.heap.size<wa.heap.size:=by omega
 obtain ⟨m,hm⟩:=hVa.out.m
 have hCt:=Tryz.strings_Cut s ⟨#[119]⟩ m wa (by omega) hm
 rw [show (⟨#[119]⟩:ByteArray).data.toList= [119] from rfl,Dw,hidx,if_pos (by omega)] at hCt
 have hfin:=aa (fun W (hW:Below wa.heap.size wa W)=>hba.trans (hW.mono hba.size))
 rw [wP hidx]
 replace hsa:=aa hsa
 clear hca hfa hV hba hm hidx
 obtain ⟨aB,haB⟩:∃ aB:ByteArray,aB=⟨(s.data.toList.take i).toArray⟩:=⟨_,rfl⟩
 obtain ⟨bB,hbB⟩:∃ bB:ByteArray,bB=⟨(s.data.toList.drop (i+1)).toArray⟩:=⟨_,rfl⟩
 have hCt':Calls prog 28 #[.string s,.string ⟨#[119]⟩] wa fun e w'=>e=.returned (.tuple #[.string aB,.string bB,.bool true])∧Below wa.heap.size wa w':=by
  rw [haB,hbB]
  exact hCt.mono fun e w' h=>⟨h.1,by obtain ⟨n,hn⟩:=h.2;rw [hn];exact au (Hs _ _) n⟩
 have hbs:bB.size≤2000000:=by rw [hbB];exact Hw (wM s _) hs
 have has:aB.size≤2000000:=by rw [haB];exact Hw (wL s _) hs
 have hbd:bB.data.toList=s.data.toList.drop (i+1):=by rw [hbB]
 have had:aB.data.toList=s.data.toList.take i:=by rw [haB]
 have hba:∀ c∈bB.data.toList,c.toNat<128:=fun c hc=>hascii c (by rw [hbd] at hc;exact List.mem_of_mem_drop hc)
 have hpz:=fun W=>lZ bB W hbs hba
 have hP:=fun W hW=>D7 aB W has (hVa.out.below (show Below wa.heap.size wa W from hW) (Ht _))
 rw [←had] at hi ⊢
 rw [←hbd]
 rw [Lib.size_eq] at has
 have hsz:=Lib.size_eq aB
 have hal:aB.size≤9223372036854775807:=by omega
 clear hCt haB hbB hbs hbd had hba hascii hs
 replace hCt:=aa hCt'
 clear hCt'
 by_cases hlen:aB.data.toList.length≤3
 focus
  have hlz:¬(3:Int)<(aB.size:Int):=by omega
  clear hsz has
  cases hall:aB.data.toList.all io
  focus
   have hb:=s7 hall hlen
   have hPu:=aa (fun W hW=>(hP W hW).mono fun e w' h=>(⟨by
    obtain ⟨⟨n,er,he,h1⟩,-⟩:=h
    rcases h1 with ⟨h1,-⟩|⟨-,T,N,rfl⟩
    ·exact absurd h1 (hb n)
    ·exact ⟨n,T,N,he⟩,h.2⟩:(∃ (n:Nat) (T:TypeId) (N:Nat),e=.returned (.tuple #[.int .u64 n,.iface T (.pointer (some ⟨N,0,none⟩))]))∧Below W.heap.size W w'))
   rw [if_neg (by simp)]
   clear hb hP hi hlen hpz
   go_enter func186,ntmps186
   go_wp2_with (first|(go_at_call 28;refine hCt.out.mono ?_;rintro e w0 ⟨rfl,hb0⟩)|(go_at_call 210;refine (hPu.out _ hb0).mono ?_;rintro e w1 ⟨⟨un,T,N,rfl⟩,hb1⟩))
   exact ⟨rfl,rfl,hfin.out _ (hb0.trans (hb1.mono hb0.size))⟩
  rotate_right
  focus
   obtain ⟨hok,hd⟩:=nk hi hall hlen
   rw [if_pos (by rw [Hy];exact ⟨rfl,decide_eq_true hlen⟩)]
   obtain ⟨d,hde⟩:∃ d,d=nd aB.data.toList:=⟨_,rfl⟩
   rw [←hde] at hok hd ⊢
   have hPu:=aa (fun W hW=>(hP W hW).mono fun e w' h=>(⟨by
    obtain ⟨⟨n,er,he,h1⟩,-⟩:=h
    rcases h1 with ⟨h1,rfl⟩|⟨h1,-⟩
    ·rw [hok] at h1;injection h1 with h1;rw [h1];exact he
    ·exact absurd hok (h1 _),h.2⟩:e=.returned (.tuple #[.int .u64 (d:Int),.nilIface])∧Below W.heap.size W w'))
   clear hok hde hP hi hlen
   by_cases hbad:d<1∨128<d
   focus
    rw [if_pos hbad]
    clear hpz
    rcases hbad with hbad|hbad
    have hz1:(d:Int)<1:=by omega
    rotate_right
    have hz1:¬(d:Int)<1:=by omega
    have hz2:(128:Int)<(d:Int):=by omega
   rotate_right
   focus
    rw [if_neg hbad]
    have hz1:¬(d:Int)<1:=by omega
    have hz2:¬(128:Int)<(d:Int):=by omega
    clear hbad
    have hq2:=hq
    obtain ⟨R,hRe⟩:∃ R,R=eK (bB).data.toList:=⟨_,rfl⟩
    unfold qx
    rw [←hRe]
    rw [←hRe] at hpz
    cases R with
    |error n=>
     have hn45:=it hRe.symm
     have hn0:¬n=0:=by omega
     have hn0b:(n==0)=false:=beq_eq_false_iff_ne.2 hn0
     have hn0c:(n !=0)=true:=bne_iff_ne.2 hn0
     replace hRe:=aa hRe
     replace hpz:=aa (fun W=>show Calls prog 211 #[.string (bB)] W fun e w'=>e=.returned (.tuple #[.agg #[.int .u64 0,.int .u64 0],.int .i64 n])∧Below W.heap.size W w' from hpz W)
     clear hn45
     go_enter func186,ntmps186
     go_wp2_with (first|(go_at_call 28;refine hCt.out.mono ?_;rintro e w0 ⟨rfl,hb0⟩)|(go_at_call 210;refine (hPu.out _ hb0).mono ?_;rintro e w1 ⟨rfl,hb1⟩)|(go_at_call 211;refine (hpz.out _).mono ?_;rintro e w2 ⟨rfl,hb2⟩))
     have hb01:=hb0.trans (hb1.mono hb0.size)
     exact ⟨rfl,rfl,hfin.out _ ((hb01.trans (hb2.mono hb01.size)).alloc (Hw hb01.size hb2.size) _)⟩
    |ok n=>
     have hnl:=oa hRe.symm
     replace hRe:=aa hRe
     have hF:=qQ (d) n
     obtain ⟨nh,hnh⟩:∃ nh,nh=((n / 18446744073709551616:Nat):Int):=⟨_,rfl⟩
     obtain ⟨nl,hnl2⟩:∃ nl,nl=((n % 18446744073709551616:Nat):Int):=⟨_,rfl⟩
     have u1:aW nh:=⟨by omega,by unfold da at hnl;omega⟩
     have u2:aW nl:=⟨by omega,by omega⟩
     rw [←hnh,←hnl2] at hF
     replace hpz:=aa (fun W=>show Calls prog 211 #[.string (bB)] W fun e w'=>e=.returned (.tuple #[.agg #[.int .u64 nh,.int .u64 nl],.int .i64 0])∧Below W.heap.size W w' from by rw [hnh,hnl2];exact hpz W)
     have hFt:=aa (fun W=>cA nh nl ((d:Nat):Int) W ⟨u1,u2⟩)
     rw [hF] at hFt
     have hend:=aa (show zW (.ok (d,n))=.returned (.tuple #[.int .i64 ((d:Nat):Int),.agg #[.int .u64 nh,.int .u64 nl]]) from by rw [hnh,hnl2];rfl)
     clear u1 u2 hnh hnl2 hF hnl
     obtain ⟨ft,hft⟩:∃ ft,ft=decide (n<2 ^ (d)):=⟨_,rfl⟩
     rw [←hft] at hFt
     replace hft:=aa hft
     cases ft with
     |false=>
      rw [show zD d true (.ok n)=if true&& !decide (n<2 ^ d) then .error 5 else .ok (d,n) from rfl,←hft.out]
      go_enter func186,ntmps186
      go_wp2_with (first|(go_at_call 28;refine hCt.out.mono ?_;rintro e w0 ⟨rfl,hb0⟩)|(go_at_call 210;refine (hPu.out _ hb0).mono ?_;rintro e w1 ⟨rfl,hb1⟩)|(go_at_call 211;refine (hpz.out _).mono ?_;rintro e w2 ⟨rfl,hb2⟩;obtain ⟨w3,hw3,hs3,hb3,hc3,hf3⟩:=af w2 #[.int .u64 nh,.int .u64 nl] 96;have x0:=hc3 0;have x1:=hc3 1;have hl3:w2.heap.size<w3.heap.size:=(by omega);replace hs3:=aa hs3;simp at x0 x1;have hb01:=hb0.trans (hb1.mono hb0.size);have hb02:=hb01.trans (hb2.mono hb01.size);have hb04:=hb02.trans (hb3.mono hb02.size))|(go_at_call 133;refine (hFt.out _).mono ?_;rintro e w4 ⟨rfl,hb4⟩))
      exact ⟨rfl,rfl,hfin.out _ (hb04.trans (hb4.mono hb04.size))⟩
     |true=>
      rw [show zD d true (.ok n)=if true&& !decide (n<2 ^ d) then .error 5 else .ok (d,n) from rfl,←hft.out]
      rw [if_neg (by simp),hend.out]
      go_enter func186,ntmps186
      go_upto_region 17 with (first|(go_at_call 28;refine hCt.out.mono ?_;rintro e w0 ⟨rfl,hb0⟩)|(go_at_call 210;refine (hPu.out _ hb0).mono ?_;rintro e w1 ⟨rfl,hb1⟩)|(go_at_call 211;refine (hpz.out _).mono ?_;rintro e w2 ⟨rfl,hb2⟩;obtain ⟨w3,hw3,hs3,hb3,hc3,hf3⟩:=af w2 #[.int .u64 nh,.int .u64 nl] 96;have x0:=hc3 0;have x1:=hc3 1;have hl3:w2.heap.size<w3.heap.size:=(by omega);replace hs3:=aa hs3;simp at x0 x1;have hb01:=hb0.trans (hb1.mono hb0.size);have hb02:=hb01.trans (hb2.mono hb01.size);have hb04:=hb02.trans (hb3.mono hb02.size))|(go_at_call 133;refine (hFt.out _).mono ?_;rintro e w4 ⟨rfl,hb4⟩))
      have hb05:=hb04.trans (hb4.mono hb04.size)
      obtain ⟨ql,q0,q1,e0,e1⟩:=hq.out.below hb05 hla
      have kb4:=ae hb4
      have y0:=(kb4.1 _ 0 hl3).trans x0
      have y1:=(kb4.1 _ 1 hl3).trans x1
      have hl4:=Hr hl3 hb4.size
      have hfx:=aa (hfin.out _ hb05)
      clear kb4 hb0 hb1 hb2 hb3 hb4 hb01 hb02 hb04 hb05 hc3 hf3 x0 x1
      go_region
      all_goals
       go_wp2
       exact bodyPost_ret (v:=.tuple #[.int .i64 _,.agg #[.int .u64 nh,.int .u64 nl]]) (by simp [results,results186,go_sem,q0,q1,ql]) rfl ⟨rfl,(by first|exact (bK hfx.out (Ht _) _ _).drew|exact bK hfx.out (Ht _) _ _)⟩
 rotate_right
 focus
  have hlz:(3:Int)<(aB.size:Int):=by omega
  clear hsz has
  have hPu:=aa (fun W hW=>(hP W hW).mono fun e w' h=>(⟨by
   obtain ⟨⟨n,er,he,h1⟩,-⟩:=h
   rcases h1 with ⟨-,rfl⟩|⟨-,T,N,rfl⟩
   ·exact ⟨n,.inl he⟩
   ·exact ⟨n,.inr ⟨T,N,he⟩⟩,h.2⟩:(∃ (n:Nat),e=.returned (.tuple #[.int .u64 n,.nilIface])∨∃ (T:TypeId) (N:Nat),e=.returned (.tuple #[.int .u64 n,.iface T (.pointer (some ⟨N,0,none⟩))]))∧Below W.heap.size W w'))
  rw [if_neg (by simp;omega)]
  clear hP hi hlen hpz
  go_enter func186,ntmps186
  go_wp2_with (first|(go_at_call 28;refine hCt.out.mono ?_;rintro e w0 ⟨rfl,hb0⟩)|(go_at_call 210;refine (hPu.out _ hb0).mono ?_;rintro e w1 ⟨⟨un,rfl|⟨T,N,rfl⟩⟩,hb1⟩))
  all_goals
   exact ⟨rfl,rfl,hfin.out _ (hb0.trans (hb1.mono hb0.size))⟩
 all_goals
  go_enter func186,ntmps186
  go_wp2_with (first|(go_at_call 28;refine hCt.out.mono ?_;rintro e w0 ⟨rfl,hb0⟩)|(go_at_call 210;refine (hPu.out _ hb0).mono ?_;rintro e w1 ⟨rfl,hb1⟩))
  exact ⟨rfl,rfl,hfin.out _ (hb0.trans (hb1.mono hb0.size))⟩
theorem tu (s:ByteArray) (w:World) (hs:s.size≤2000000) (hascii:∀ c∈s.data.toList,c.toNat<128) (h0:io (s.data.toList.headD 0)=true) (hV:gV w):
  Calls prog 186 #[.string s] w fun e w'=>e=zW (ng s.data.toList)∧Below w.heap.size w w':=by
 rcases nj s.data.toList 119 with hidx|⟨i,hidx,hil⟩
 ·exact qR s w hs hascii hV hidx
 ·refine qS s w hs hascii hV i hidx ?_
  cases hl:s.data.toList with
  |nil=>rw [hl] at hil;simp at hil
  |cons c r=>
   cases i with
   |zero=>
    exfalso
    rw [hl] at h0 hidx
    unfold Lib.indexByte at hidx
    by_cases hc:(c==119)=true
    ·have:c=119:=by simpa using hc
     subst this
     exact absurd (show io 119=true from h0) (by decide)
    ·rw [if_neg hc] at hidx
     have:=Lib.indexByte_ge r 119
     split at hidx<;>simp_all<;>omega
   |succ i=>simp
end
section
def EJ (k:Nat) (s:ByteArray) (w n a:Nat):List Value:= [.int .u8 (k:Int),.string s,.int .i64 (w:Int),.int .u64 ((n / 18446744073709551616:Nat):Int),.int .u64 ((n % 18446744073709551616:Nat):Int),.int .i64 (a:Int)]
def zX:Except Int (Nat×List UInt8×Nat×Nat)→Ending
 | .error n=>wJ n
 | .ok x=>.returned (.agg (EJ x.1 ⟨x.2.1.toArray⟩ x.2.2.1 x.2.2.2 0).toArray)
theorem iu {B g:Nat} {a w:World} (h:Below B a w) (hg:B≤g) (v0 v1 v2 v3 v4 v5:Value):Below B a ((((((w.setCell ⟨g,0,none⟩ v0).setCell ⟨g,1,none⟩ v1).setCell ⟨g,2,none⟩ v2).setCell ⟨g,3,none⟩ v3).setCell ⟨g,4,none⟩ v4).setCell ⟨g,5,none⟩ v5):=
 ((((((h.setCell (p:=⟨g,0,none⟩) hg _).setCell (p:=⟨g,1,none⟩) hg _).setCell (p:=⟨g,2,none⟩) hg _).setCell (p:=⟨g,3,none⟩) hg _).setCell (p:=⟨g,4,none⟩) hg _).setCell (p:=⟨g,5,none⟩) hg _)
theorem tz (l:List UInt8):∀ c∈l.take (bA l),c.toNat<128∧bP (c.toNat:Nat)=true:=by
 intro c hc
 have h:bP (c.toNat:Nat)=true:=by
  unfold bA at hc
  have e:l.take (l.takeWhile fun c=>bP c.toNat).length=l.takeWhile fun c=>bP c.toNat:=by
   have:=List.takeWhile_prefix (fun c:UInt8=>bP c.toNat) (l:=l)
   exact (List.prefix_iff_eq_take.1 this).symm
  rw [e] at hc
  exact (HT.1 List.all_takeWhile) c hc
 refine ⟨?_,h⟩
 unfold bP dt kx at h
 simp only [HS,decide_eq_true_eq] at h
 omega
attribute [local go_sem] run_panic_iface
theorem CF (s:ByteArray) (w:World) (h0:0<s.size) (hs:s.size≤2000000) (hV:gV w):
  Calls prog 161 #[.string s] w fun e w'=>e=zX (f9 s.data.toList)∧Below w.heap.size w w':=by
 obtain ⟨wa,hwa,hsa,hba,hca,hfa⟩:=af w #[.int .u8 0,.string ⟨#[]⟩,.int .i64 0,.int .u64 0,.int .u64 0,.int .i64 0] 209
 have z0:=hca 0
 have z1:=hca 1
 have z2:=hca 2
 have z3:=hca 3
 have z4:=hca 4
 have z5:=hca 5
 simp at z0 z1 z2 z3 z4 z5
 have hVa:=aa (hV.below hba (Ht _))
 have hla:w.heap.size<wa.heap.size:=by omega
 have hfz:=hfa
 have hfin:=aa (fun W (hW:Below wa.heap.size wa W)=>hba.trans (hW.mono hba.size))
 obtain ⟨wB,hwB⟩:∃ wB,wB=s.extract 0 (gj s):=⟨_,rfl⟩
 have hwl:wB.data.toList=s.data.toList.take (bA s.data.toList):=by rw [hwB,gu];rfl
 have hW:=aa (fun W=>fe s W (by unfold maxLen;omega))
 rw [←hwB] at hW
 have hws:wB.size≤s.size:=by rw [Lib.size_eq,hwl,Lib.size_eq];simp;omega
 have hwk:wB.size≤2000000:=by omega
 have hasc:=tz s.data.toList
 rw [←hwl] at hasc
 unfold f9
 rw [←hwl]
 simp only
 replace hsa:=aa hsa
 clear hca hfa hV hba hwB hwl hws
 have f0:=hfz 0
 have f1:=hfz 1
 have f2:=hfz 2
 have f3:=hfz 3
 have f4:=hfz 4
 have f5:=hfz 5
 clear hfz
 by_cases he:wB.data.toList= []
 ·have hem:wB.toList.isEmpty=true:=by rw [Lib.toList_data,he];rfl
  have heb:(wB.toList== [])=true:=by rw [Lib.toList_data,he];rfl
  have hel:wB.toList= []:=by rw [Lib.toList_data,he]
  rw [if_pos he]
  have hM:=zU s wa h0
  clear he hasc hwk hVa
  by_cases hm:aK s.data.toList= []
  ·rw [if_pos hm]
   have hM':=aa (hM.mono fun e w' h=>(by
    rcases h with ⟨h1,⟨-,h2⟩|⟨m,-,h3,-⟩⟩
    ·exact ⟨h2,h1⟩
    ·exact absurd hm h3:e=wJ 4∧w'=wa))
   clear hM hm
   go_enter func161,ntmps161
   go_wp2_with (first|(go_at_call 183;refine (hW.out _).mono ?_;rintro e w' ⟨rfl,rfl⟩)|(go_at_call 184;refine hM'.out.mono ?_;rintro e w' ⟨rfl,rfl⟩))
   exact ⟨rfl,rfl,hfin.out _ (Hs _ _)⟩
  ·rw [if_neg hm]
   obtain ⟨mB,hmB⟩:∃ mB:ByteArray,mB=⟨(aK s.data.toList).toArray⟩:=⟨_,rfl⟩
   have hM':=aa (hM.mono fun e w' h=>(by
    rcases h with ⟨h1,⟨h3,-⟩|⟨m,h2,-,h4⟩⟩
    ·exact absurd h3 hm
    ·exact ⟨by rw [h4,hmB,←h2],h1⟩:e=.returned (.string mB)∧w'=wa))
   rw [show zX (.ok (3,aK s.data.toList,0,0))=.returned (.agg #[.int .u8 3,.string mB,.int .i64 0,.int .u64 0,.int .u64 0,.int .i64 0]) from by rw [hmB];simp [zX,EJ]]
   clear hM hm hmB
   go_enter func161,ntmps161
   go_wp2_with (first|(go_at_call 183;refine (hW.out _).mono ?_;rintro e w' ⟨rfl,rfl⟩)|(go_at_call 184;refine hM'.out.mono ?_;rintro e w' ⟨rfl,rfl⟩))
   exact bodyPost_ret (v:=.agg #[.int .u8 3,.string mB,.int .i64 0,.int .u64 0,.int .u64 0,.int .i64 0]) (by simp [results,results161,go_sem,z0,z1,z2,z3,z4,z5]) rfl ⟨rfl,iu (hfin.out _ (Hs _ _)) (Ht _) _ _ _ _ _ _⟩
 ·have hem:wB.toList.isEmpty=false:=by
   rw [Lib.toList_data];cases h:wB.data.toList with|nil=>exact absurd h he|cons _ _=>rfl
  have hel:¬wB.toList= []:=by rw [Lib.toList_data];exact he
  have heb:(wB.toList== [])=false:=beq_eq_false_iff_ne.2 hel
  have hw0:0<wB.size:=by rw [Lib.size_eq];exact Ij.2 he
  have hwz:(0:Int)<(wB.size:Int):=by omega
  have hwl:wB.size≤9223372036854775807:=by omega
  rw [if_neg he]
  have hhd:io (wB.data.toList.headD 0)=dt ((wB[0].toNat:Nat):Int):=by rw [uO hw0];rfl
  have hD:=aa (fun W=>eP ((wB[0].toNat:Nat):Int) W)
  rw [←hhd] at hD
  clear hel he h0
  cases hd:io (wB.data.toList.headD 0) with
  |true=>
   have hN:=aa (fun (W:World) (hW:Below wa.heap.size wa W)=>tu wB W hwk (fun c hc=>(hasc c hc).1) hd (hVa.out.below hW (Ht _)))
   rw [hd] at hD
   rw [if_pos rfl]
   clear hhd hd hasc hVa
   generalize ng wB.data.toList=R at hN
   cases R with
   |error n=>
    replace hN:=aa (fun (W:World) (hW:Below wa.heap.size wa W)=>show Calls prog _ _ W fun e w'=>e=wJ n∧Below W.heap.size W w' from hN.out W hW)
    go_enter func161,ntmps161
    go_wp2_with (first|(go_at_call 183;refine (hW.out _).mono ?_;rintro e w' ⟨rfl,rfl⟩)|(go_at_call 185;refine (hD.out _).mono ?_;rintro e w' ⟨rfl,rfl⟩)|(go_at_call 186;refine (hN.out _ (Hs _ _)).mono ?_;rintro e w3 ⟨rfl,hb3⟩))
    exact ⟨rfl,rfl,hfin.out _ hb3⟩
   |ok x=>
    obtain ⟨a,n⟩:=x
    show Calls _ _ _ _ fun e w'=>e=.returned (.agg #[.int .u8 2,.string wB,.int .i64 (a:Int),.int .u64 ((n / 18446744073709551616:Nat):Int),.int .u64 ((n % 18446744073709551616:Nat):Int),.int .i64 0])∧_
    replace hN:=aa (fun (W:World) (hW:Below wa.heap.size wa W)=>show Calls prog _ _ W fun e w'=>e=.returned (.tuple #[.int .i64 (a:Int),.agg #[.int .u64 ((n / 18446744073709551616:Nat):Int),.int .u64 ((n % 18446744073709551616:Nat):Int)]])∧Below W.heap.size W w' from hN.out W hW)
    generalize ((n / 18446744073709551616:Nat):Int)=nh at hN
    generalize ((n % 18446744073709551616:Nat):Int)=nl at hN
    generalize (a:Int)=az at hN
    go_enter func161,ntmps161
    go_wp2_with (first|(go_at_call 183;refine (hW.out _).mono ?_;rintro e w' ⟨rfl,rfl⟩)|(go_at_call 185;refine (hD.out _).mono ?_;rintro e w' ⟨rfl,rfl⟩)|(go_at_call 186;refine (hN.out _ (Hs _ _)).mono ?_;rintro e w3 ⟨rfl,hb3⟩;obtain ⟨w4,hw4,hs4,hb4,hc4,hf4⟩:=af w3 #[.int .u64 nh,.int .u64 nl] 96;have x0:=hc4 0;have x1:=hc4 1;replace hs4:=aa hs4;simp at x0 x1;have hb34:=hb3.trans (hb4.mono hb3.size);have kb4:=ae hb34;have q4:=Hr hla hb34.size;have y0:=(kb4.1 _ 0 hla).trans z0;have y1:=(kb4.1 _ 1 hla).trans z1;have y2:=(kb4.1 _ 2 hla).trans z2;have y3:=(kb4.1 _ 3 hla).trans z3;have y4:=(kb4.1 _ 4 hla).trans z4;have y5:=(kb4.1 _ 5 hla).trans z5;have g0:=(kb4.2 _ 0 hla).trans f0;have g1:=(kb4.2 _ 1 hla).trans f1;have g2:=(kb4.2 _ 2 hla).trans f2;have g3:=(kb4.2 _ 3 hla).trans f3;have g4:=(kb4.2 _ 4 hla).trans f4;have g5:=(kb4.2 _ 5 hla).trans f5))
    exact bodyPost_ret (v:=.agg #[.int .u8 2,.string wB,.int .i64 az,.int .u64 nh,.int .u64 nl,.int .i64 0]) (by simp [results,results161,go_sem,y0,y1,y2,y3,y4,y5,q4]) rfl ⟨rfl,iu (hfin.out _ hb34) (Ht _) _ _ _ _ _ _⟩
  |false=>
   rw [hd] at hD
   rw [if_neg (by simp)]
   clear hhd hd hasc hVa
   by_cases h16:16<wB.data.toList.length
   ·rw [if_pos h16]
    rw [←Lib.size_eq] at h16
    have h16z:(16:Int)<(wB.size:Int):=by omega
    replace h16:=aa h16
    go_enter func161,ntmps161
    go_wp2_with (first|(go_at_call 183;refine (hW.out _).mono ?_;rintro e w' ⟨rfl,rfl⟩)|(go_at_call 185;refine (hD.out _).mono ?_;rintro e w' ⟨rfl,rfl⟩))
    exact ⟨rfl,rfl,hfin.out _ (Hs _ _)⟩
   ·rw [if_neg h16]
    rw [←Lib.size_eq] at h16
    have h16z:¬(16:Int)<(wB.size:Int):=by omega
    replace h16:=aa h16
    rw [show zX (.ok (1,wB.data.toList,0,0))=.returned (.agg #[.int .u8 1,.string wB,.int .i64 0,.int .u64 0,.int .u64 0,.int .i64 0]) from by simp [zX,EJ]]
    go_enter func161,ntmps161
    go_wp2_with (first|(go_at_call 183;refine (hW.out _).mono ?_;rintro e w' ⟨rfl,rfl⟩)|(go_at_call 185;refine (hD.out _).mono ?_;rintro e w' ⟨rfl,rfl⟩))
    exact bodyPost_ret (v:=.agg #[.int .u8 1,.string wB,.int .i64 0,.int .u64 0,.int .u64 0,.int .i64 0]) (by simp [results,results161,go_sem,z0,z1,z2,z3,z4,z5]) rfl ⟨rfl,iu (hfin.out _ (Hs _ _)) (Ht _) _ _ _ _ _ _⟩
end
section
open Go.Lib
def FH (p:Nat×Nat) (c:UInt8):Nat×Nat:=if c=10 then (p.1+1,1) else (p.1,p.2+1)
def bN (l:List UInt8):Nat×Nat:=l.foldl FH (1,1)
theorem qT (l:List UInt8) {k:Nat} (h:k<l.length):bN (l.take (k+1))=FH (bN (l.take k)) l[k]:=by
 unfold bN
 rw [H9 h,List.foldl_append]
 rfl
theorem iw (s:ByteArray) (c:Int):∀ k,-1≤lastIdx s c k∧lastIdx s c k<(k:Int)
 |0=>by simp [lastIdx]
 |k+1=>by
  have:=iw s c k
  unfold lastIdx
  split<;>omega
theorem jT (s:ByteArray):∀ k,k≤s.size→bN (s.data.toList.take k)=(countByte (s.data.toList.take k) 10+1,((k:Int)-(lastIdx s 10 k+1)+1).toNat)
 |0,_=>by simp [bN,countByte,lastIdx]
 |k+1,h=>by
  have ih:=jT s k (by omega)
  have hl:k<s.data.toList.length:=by rw [←size_eq];omega
  have hle:=iw s 10 k
  rw [qT _ hl,ih]
  have e:s.data[k]! =s.data.toList[k]:=by
   rw [getElem!_pos s.data k (by simpa using hl)]
   simp
  have e0:lastIdx s 10 (k+1)=if ((s.data[k]!).toNat:Int)=10 then (k:Int) else lastIdx s 10 k:=rfl
  rw [e0,e]
  unfold countByte
  rw [H9 hl,List.count_append]
  generalize s.data.toList[k]=c
  by_cases hc:c=10
  ·subst hc
   simp [FH]
  ·have hn:¬((c.toNat:Nat):Int)=10:=fun h=>hc (UInt8.toNat_inj.1 (by show _=10;omega))
   have h0:List.count 10 [c]=0:=by
    rw [List.count_eq_zero]
    simp only [List.mem_singleton]
    exact fun h=>hc h.symm
   rw [if_neg hn,h0]
   unfold FH
   rw [if_neg hc]
   show (_,_)=(_,_)
   rw [Nat.add_zero]
   congr 1
   show _+1=_
   omega
theorem tA (s:ByteArray):bN s.data.toList=(countByte s.data.toList 10+1,((s.size:Int)-(lastIndexByte s 10+1)+1).toNat)∧ -1≤lastIndexByte s 10∧lastIndexByte s 10<s.size:=by
 have:=jT s s.size (Ht _)
 rw [H6 (by rw [←size_eq];exact Ht _)] at this
 exact ⟨this,iw s 10 s.size⟩
end
end Go.Proofs.YtijcdfdbkffiaaaGreatDoor

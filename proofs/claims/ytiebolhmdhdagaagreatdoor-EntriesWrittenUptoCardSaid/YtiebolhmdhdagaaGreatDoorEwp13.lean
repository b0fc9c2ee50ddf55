import Derived.Test.YtiebolhmdhdagaaGreatDoorEwp12
set_option linter.all false
set_option maxHeartbeats 8000000
set_option maxRecDepth 100000
open Go.Proofs.Tryz
namespace Go.Proofs.YtiebolhmdhdagaaGreatDoor
open _root_.Nat renaming lt_of_lt_of_le→He, le_refl→Hh, le_trans→Hj, zero_le→Hm
open _root_.Go.RowKit.Below renaming refl→Hf
open _root_.Bool renaming and_eq_true→Hl, or_eq_true→HQ
open _root_.Go.Sort renaming grow→Ht
open _root_.List renaming all_eq_true→Hx, length_pos_iff→H3
open _root_.Int renaming toNat_natCast→HG
open Go.RowKit
section
structure iA (w:World):Prop where
 m:∃ m,w.cell? ⟨2,0,none⟩=some (.int .i64 m)
 s:∃ ev,w.cell? ⟨4,0,none⟩=some ev∧(ev=.nilIface∨∃ te pe,ev=.iface te pe)
 r:∃ ev,w.cell? ⟨5,0,none⟩=some ev∧(ev=.nilIface∨∃ te pe,ev=.iface te pe)
theorem mf {w:World} {b o:Nat} {v:Value} (h:w.cell? ⟨b,o,none⟩=some v):b<w.heap.size:=by
 unfold World.cell? at h
 by_cases hb:b<w.heap.size
 ·exact hb
 ·rw [Array.getElem?_eq_none (by show w.heap.size≤b;omega)] at h
  simp at h
theorem iA.below {w w':World} {B:Nat} (h:iA w) (hb:Below B w w') (hB:w.heap.size≤B):iA w':=by
 obtain ⟨⟨m,hm⟩,⟨e1,h1,k1⟩,⟨e2,h2,k2⟩⟩:=h
 exact ⟨⟨m,(hb.cell (p:=⟨2,0,none⟩) (He (mf hm) hB)).trans hm⟩,⟨e1,(hb.cell (p:=⟨4,0,none⟩) (He (mf h1) hB)).trans h1,k1⟩,⟨e2,(hb.cell (p:=⟨5,0,none⟩) (He (mf h2) hB)).trans h2,k2⟩⟩
theorem EJ (s:ByteArray) (w:World) (hs:s.size≤2000000) (hV:iA w):
  Calls prog 178 #[.string s,.int .i64 10,.int .i64 16] w fun e w'=>(∃ (n:Nat) (er:Value),e=.returned (.tuple #[.int .u64 n,er])∧((Lib.parseUintB 16 s.data.toList=.ok n∧er=.nilIface)∨((∀ u,Lib.parseUintB 16 s.data.toList≠ .ok u)∧∃ (T:TypeId) (N:Nat),er=.iface T (.pointer (some ⟨N,0,none⟩)))))∧Below w.heap.size w w':=by
 obtain ⟨-,⟨e1,h1,k1⟩,⟨e2,h2,k2⟩⟩:=hV
 rcases h:Lib.parseUintB 16 s.data.toList with u|_|_
 ·refine (Tryz.strconv_ParseUint_10_at16_ok s (by omega) u h w).mono ?_
  rintro e w' ⟨rfl,hw⟩
  refine ⟨⟨u,.nilIface,rfl,.inl ⟨rfl,rfl⟩⟩,?_⟩
  rcases hw with rfl|rfl
  ·exact Hf _ _
  ·exact Lib.bytesWorld_below _ _ _
 ·refine (Tryz.strconv_ParseUint_10_at16_syntax s (by omega) h e1 w h1 k1).mono ?_
  rintro e w' ⟨N,rfl,-,-,hb⟩
  exact ⟨⟨0,_,rfl,.inr ⟨by simp,_,N,rfl⟩⟩,hb⟩
 ·refine (Tryz.strconv_ParseUint_10_at16_range s (by omega) h e2 w h2 k2).mono ?_
  rintro e w' ⟨N,rfl,-,-,hb⟩
  exact ⟨⟨65535,_,rfl,.inr ⟨by simp,_,N,rfl⟩⟩,hb⟩
def Bh:Except Int (Nat×Nat)→Ending
 | .error n=>xD n
 | .ok x=>.returned (.tuple #[.int .i64 (x.1:Int),.agg #[.int .u64 ((x.2 / 18446744073709551616:Nat):Int),.int .u64 ((x.2 % 18446744073709551616:Nat):Int)]])
theorem sD (k n:Nat):bN (k:Int) ((n / 18446744073709551616:Nat):Int) ((n % 18446744073709551616:Nat):Int)=decide (n<2 ^ k):=by
 unfold bN kP rD
 simp only
 rw [decide_eq_decide,HG]
 have e:((n / 18446744073709551616:Nat):Int)*18446744073709551616+((n % 18446744073709551616:Nat):Int)=(n:Int):=by omega
 have e2:((2 ^ k:Nat):Int)=(2:Int) ^ k:=by simp
 rw [←e2]
 omega
theorem iY {l:List UInt8} {e:Int} (h:dP l=.error e):e=4∨e=5:=by
 unfold dP at h
 simp only at h
 repeat' split at h
 all_goals first
  |(injection h with h;omega)
  |cases h
theorem pN {l:List UInt8} {n:Nat} (h:dP l=.ok n):n<bc:=by
 unfold dP at h
 simp only at h
 repeat' split at h
 all_goals first
  |(injection h with h;rw [←h];exact vz _ _)
  |cases h
theorem xZ (s:ByteArray) (n:Nat):(⟨(s.data.toList.take n).toArray⟩:ByteArray).size≤s.size:=by
 rw [Lib.size_eq,Lib.size_eq]
 simp
 omega
theorem x6 (s:ByteArray) (n:Nat):(⟨(s.data.toList.drop n).toArray⟩:ByteArray).size≤s.size:=by
 rw [Lib.size_eq,Lib.size_eq]
 simp
attribute [local go_sem] run_panic_iface
theorem x7 {l:List UInt8} (h:Lib.indexByte l 119= -1):jZ l=qq 0 false l:=by
 unfold jZ
 rw [h]
 exact if_neg (by decide)
theorem x8 {l:List UInt8} {i:Nat} (h:Lib.indexByte l 119=(i:Int)):jZ l=if (l.take i).all eR&&decide ((l.take i).length≤3) then (if oA (l.take i)<1∨128<oA (l.take i) then .error 10 else qq (oA (l.take i)) true (l.drop (i+1))) else .error 4:=by
 unfold jZ
 rw [h]
 exact if_pos (by omega)
attribute [local go_sem] run_panic_iface
theorem sE (s:ByteArray) (w:World) (hs:s.size≤2000000) (hascii:∀ c∈s.data.toList,c.toNat<128) (hV:iA w) (hidx:Lib.indexByte s.data.toList 119= -1):
  Calls prog 144 #[.string s] w fun e w'=>e=Bh (jZ s.data.toList)∧Below w.heap.size w w':=by
 obtain ⟨wa,hwa,hsa,hba,hca,hfa⟩:=ak w #[.int .u64 0,.int .u64 0] 61
 have hq:=aa (show dx wa w.heap.size 0 0 from ⟨by omega,hca 0,hca 1,hfa 0,hfa 1⟩)
 have hVa:=aa (hV.below hba (Hh _))
 have hla:w.heap.size<wa.heap.size:=by omega
 obtain ⟨m,hm⟩:=hVa.out.m
 have hCt:=Tryz.strings_Cut s ⟨#[119]⟩ m wa (by omega) hm
 rw [show (⟨#[119]⟩:ByteArray).data.toList= [119] from rfl,DQ,hidx,if_neg (by decide)] at hCt
 have hfin:=aa (fun W (hW:Below wa.heap.size wa W)=>hba.trans (hW.mono hba.size))
 rw [x7 hidx]
 replace hsa:=aa hsa
 clear hca hfa hV hba hm hidx
 replace hCt:=aa (hCt.mono fun e w' h=>(⟨h.1,by obtain ⟨n,hn⟩:=h.2;rw [hn];exact au (Hf _ _) n⟩:_∧Below wa.heap.size wa w'))
 have hpz:=fun W=>nK s W hs hascii
 obtain ⟨R,hRe⟩:∃ R,R=dP (s).data.toList:=⟨_,rfl⟩
 unfold qq
 rw [←hRe]
 rw [←hRe] at hpz
 cases R with
 |error n=>
  have hn45:=iY hRe.symm
  have hn0:¬n=0:=by omega
  have hn0b:(n==0)=false:=beq_eq_false_iff_ne.2 hn0
  have hn0c:(n !=0)=true:=bne_iff_ne.2 hn0
  replace hRe:=aa hRe
  replace hpz:=aa (fun W=>show Calls prog 179 #[.string (s)] W fun e w'=>e=.returned (.tuple #[.agg #[.int .u64 0,.int .u64 0],.int .i64 n])∧Below W.heap.size W w' from hpz W)
  clear hn45
  go_enter func144,ntmps144
  go_wp2_with (first|(go_at_call 177;refine hCt.out.mono ?_;rintro e w1 ⟨rfl,hb1⟩)|(go_at_call 178;refine hPu.out.mono ?_;rintro e w1 ⟨rfl,hb1⟩)|(go_at_call 179;refine (hpz.out _).mono ?_;rintro e w2 ⟨rfl,hb2⟩))
  exact ⟨rfl,rfl,hfin.out _ ((hb1.trans (hb2.mono hb1.size)).alloc (Hj hb1.size hb2.size) _)⟩
 |ok n=>
  have hnl:=pN hRe.symm
  replace hRe:=aa hRe
  have hF:=sD (0) n
  obtain ⟨nh,hnh⟩:∃ nh,nh=((n / 18446744073709551616:Nat):Int):=⟨_,rfl⟩
  obtain ⟨nl,hnl2⟩:∃ nl,nl=((n % 18446744073709551616:Nat):Int):=⟨_,rfl⟩
  have u1:aI nh:=⟨by omega,by unfold bc at hnl;omega⟩
  have u2:aI nl:=⟨by omega,by omega⟩
  rw [←hnh,←hnl2] at hF
  replace hpz:=aa (fun W=>show Calls prog 179 #[.string (s)] W fun e w'=>e=.returned (.tuple #[.agg #[.int .u64 nh,.int .u64 nl],.int .i64 0])∧Below W.heap.size W w' from by rw [hnh,hnl2];exact hpz W)
  have hFt:=aa (fun W=>cL nh nl ((0:Nat):Int) W ⟨u1,u2⟩)
  rw [hF] at hFt
  have hend:=aa (show Bh (.ok (0,n))=.returned (.tuple #[.int .i64 ((0:Nat):Int),.agg #[.int .u64 nh,.int .u64 nl]]) from by rw [hnh,hnl2];rfl)
  clear u1 u2 hnh hnl2 hF hnl
  generalize decide (n<2 ^ (0))=ft at hFt
  clear hFt
  rw [show zv 0 false (.ok n)=.ok (0,n) from rfl,hend.out]
  go_enter func144,ntmps144
  go_upto_region 17 with (first|(go_at_call 177;refine hCt.out.mono ?_;rintro e w1 ⟨rfl,hb1⟩)|(go_at_call 179;refine (hpz.out _).mono ?_;rintro e w2 ⟨rfl,hb2⟩;obtain ⟨w3,hw3,hs3,hb3,hc3,hf3⟩:=ak w2 #[.int .u64 nh,.int .u64 nl] 61;have x0:=hc3 0;have x1:=hc3 1;replace hs3:=aa hs3))
  have hb12:=hb1.trans (hb2.mono hb1.size)
  have hb13:=hb12.trans (hb3.mono hb12.size)
  have hs3':=hs3.out
  have hl3:w2.heap.size<w3.heap.size:=by omega
  obtain ⟨ql,q0,q1,e0,e1⟩:=hq.out.below hb13 hla
  simp at x0 x1
  have hfx:=aa (hfin.out _ hb13)
  clear hs3' hb1 hb2 hb3 hb12 hb13 hc3 hf3
  go_region
  all_goals
   go_wp2
   exact bodyPost_ret (v:=.tuple #[.int .i64 _,.agg #[.int .u64 nh,.int .u64 nl]]) (by simp [results,results144,go_sem,q0,q1,ql]) rfl ⟨rfl,(by first|exact (bS hfx.out (Hh _) _ _).drew|exact bS hfx.out (Hh _) _ _)⟩
theorem sF (s:ByteArray) (w:World) (hs:s.size≤2000000) (hascii:∀ c∈s.data.toList,c.toNat<128) (hV:iA w) (i:Nat) (hidx:Lib.indexByte s.data.toList 119=(i:Int)) (hi:s.data.toList.take i≠ []):
  Calls prog 144 #[.string s] w fun e w'=>e=Bh (jZ s.data.toList)∧Below w.heap.size w w':=by
 obtain ⟨wa,hwa,hsa,hba,hca,hfa⟩:=ak w #[.int .u64 0,.int .u64 0] 61
 have hq:=aa (show dx wa w.heap.size 0 0 from ⟨by omega,hca 0,hca 1,hfa 0,hfa 1⟩)
 have hVa:=aa (hV.below hba (Hh _))
 have hla:w.heap.size<wa.heap.size:=by omega
 obtain ⟨m,hm⟩:=hVa.out.m
 have hCt:=Tryz.strings_Cut s ⟨#[119]⟩ m wa (by omega) hm
 rw [show (⟨#[119]⟩:ByteArray).data.toList= [119] from rfl,DQ,hidx,if_pos (by omega)] at hCt
 have hfin:=aa (fun W (hW:Below wa.heap.size wa W)=>hba.trans (hW.mono hba.size))
 rw [x8 hidx]
 replace hsa:=aa hsa
 clear hca hfa hV hba hm hidx
 obtain ⟨aB,haB⟩:∃ aB:ByteArray,aB=⟨(s.data.toList.take i).toArray⟩:=⟨_,rfl⟩
 obtain ⟨bB,hbB⟩:∃ bB:ByteArray,bB=⟨(s.data.toList.drop (i+1)).toArray⟩:=⟨_,rfl⟩
 have hCt':Calls prog 177 #[.string s,.string ⟨#[119]⟩] wa fun e w'=>e=.returned (.tuple #[.string aB,.string bB,.bool true])∧Below wa.heap.size wa w':=by
  rw [haB,hbB]
  exact hCt.mono fun e w' h=>⟨h.1,by obtain ⟨n,hn⟩:=h.2;rw [hn];exact au (Hf _ _) n⟩
 have hbs:bB.size≤2000000:=by rw [hbB];exact Hj (x6 s _) hs
 have has:aB.size≤2000000:=by rw [haB];exact Hj (xZ s _) hs
 have hbd:bB.data.toList=s.data.toList.drop (i+1):=by rw [hbB]
 have had:aB.data.toList=s.data.toList.take i:=by rw [haB]
 have hba:∀ c∈bB.data.toList,c.toNat<128:=fun c hc=>hascii c (by rw [hbd] at hc;exact List.mem_of_mem_drop hc)
 have hpz:=fun W=>nK bB W hbs hba
 have hP:=fun W hW=>EJ aB W has (hVa.out.below (show Below wa.heap.size wa W from hW) (Hh _))
 rw [←had] at hi ⊢
 rw [←hbd]
 rw [Lib.size_eq] at has
 have hsz:=Lib.size_eq aB
 have hal:aB.size≤9223372036854775807:=by omega
 clear hCt haB hbB hbs hbd had hba hascii hs
 replace hCt:=aa hCt'
 clear hCt'
 by_cases hlen:aB.data.toList.length≤3
 focus
  have hlz:¬(3:Int)<(aB.size:Int):=by omega
  clear hsz has
  cases hall:aB.data.toList.all eR
  focus
   have hb:=uc hall hlen
   have hPu:=aa (fun W hW=>(hP W hW).mono fun e w' h=>(⟨by
    obtain ⟨⟨n,er,he,h1⟩,-⟩:=h
    rcases h1 with ⟨h1,-⟩|⟨-,T,N,rfl⟩
    ·exact absurd h1 (hb n)
    ·exact ⟨n,T,N,he⟩,h.2⟩:(∃ (n:Nat) (T:TypeId) (N:Nat),e=.returned (.tuple #[.int .u64 n,.iface T (.pointer (some ⟨N,0,none⟩))]))∧Below W.heap.size W w'))
   rw [if_neg (by simp)]
   clear hb hP hi hlen hpz
   go_enter func144,ntmps144
   go_wp2_with (first|(go_at_call 177;refine hCt.out.mono ?_;rintro e w0 ⟨rfl,hb0⟩)|(go_at_call 178;refine (hPu.out _ hb0).mono ?_;rintro e w1 ⟨⟨un,T,N,rfl⟩,hb1⟩))
   exact ⟨rfl,rfl,hfin.out _ (hb0.trans (hb1.mono hb0.size))⟩
  rotate_right
  focus
   obtain ⟨hok,hd⟩:=oC hi hall hlen
   rw [if_pos (by rw [Hl];exact ⟨rfl,decide_eq_true hlen⟩)]
   obtain ⟨d,hde⟩:∃ d,d=oA aB.data.toList:=⟨_,rfl⟩
   rw [←hde] at hok hd ⊢
   have hPu:=aa (fun W hW=>(hP W hW).mono fun e w' h=>(⟨by
    obtain ⟨⟨n,er,he,h1⟩,-⟩:=h
    rcases h1 with ⟨h1,rfl⟩|⟨h1,-⟩
    ·rw [hok] at h1;injection h1 with h1;rw [h1];exact he
    ·exact absurd hok (h1 _),h.2⟩:e=.returned (.tuple #[.int .u64 (d:Int),.nilIface])∧Below W.heap.size W w'))
   clear hok hde hP hi hlen
   by_cases hbad:d<1∨128<d
   focus
    rw [if_pos hbad]
    clear hpz
    rcases hbad with hbad|hbad
    have hz1:(d:Int)<1:=by omega
    rotate_right
    have hz1:¬(d:Int)<1:=by omega
    have hz2:(128:Int)<(d:Int):=by omega
   rotate_right
   focus
    rw [if_neg hbad]
    have hz1:¬(d:Int)<1:=by omega
    have hz2:¬(128:Int)<(d:Int):=by omega
    clear hbad
    have hq2:=hq
    obtain ⟨R,hRe⟩:∃ R,R=dP (bB).data.toList:=⟨_,rfl⟩
    unfold qq
    rw [←hRe]
    rw [←hRe] at hpz
    cases R with
    |error n=>
     have hn45:=iY hRe.symm
     have hn0:¬n=0:=by omega
     have hn0b:(n==0)=false:=beq_eq_false_iff_ne.2 hn0
     have hn0c:(n !=0)=true:=bne_iff_ne.2 hn0
     replace hRe:=aa hRe
     replace hpz:=aa (fun W=>show Calls prog 179 #[.string (bB)] W fun e w'=>e=.returned (.tuple #[.agg #[.int .u64 0,.int .u64 0],.int .i64 n])∧Below W.heap.size W w' from hpz W)
     clear hn45
     go_enter func144,ntmps144
     go_wp2_with (first|(go_at_call 177;refine hCt.out.mono ?_;rintro e w0 ⟨rfl,hb0⟩)|(go_at_call 178;refine (hPu.out _ hb0).mono ?_;rintro e w1 ⟨rfl,hb1⟩)|(go_at_call 179;refine (hpz.out _).mono ?_;rintro e w2 ⟨rfl,hb2⟩))
     have hb01:=hb0.trans (hb1.mono hb0.size)
     exact ⟨rfl,rfl,hfin.out _ ((hb01.trans (hb2.mono hb01.size)).alloc (Hj hb01.size hb2.size) _)⟩
    |ok n=>
     have hnl:=pN hRe.symm
     replace hRe:=aa hRe
     have hF:=sD (d) n
     obtain ⟨nh,hnh⟩:∃ nh,nh=((n / 18446744073709551616:Nat):Int):=⟨_,rfl⟩
     obtain ⟨nl,hnl2⟩:∃ nl,nl=((n % 18446744073709551616:Nat):Int):=⟨_,rfl⟩
     have u1:aI nh:=⟨by omega,by unfold bc at hnl;omega⟩
     have u2:aI nl:=⟨by omega,by omega⟩
     rw [←hnh,←hnl2] at hF
     replace hpz:=aa (fun W=>show Calls prog 179 #[.string (bB)] W fun e w'=>e=.returned (.tuple #[.agg #[.int .u64 nh,.int .u64 nl],.int .i64 0])∧Below W.heap.size W w' from by rw [hnh,hnl2];exact hpz W)
     have hFt:=aa (fun W=>cL nh nl ((d:Nat):Int) W ⟨u1,u2⟩)
     rw [hF] at hFt
     have hend:=aa (show Bh (.ok (d,n))=.returned (.tuple #[.int .i64 ((d:Nat):Int),.agg #[.int .u64 nh,.int .u64 nl]]) from by rw [hnh,hnl2];rfl)
     clear u1 u2 hnh hnl2 hF hnl
     obtain ⟨ft,hft⟩:∃ ft,ft=decide (n<2 ^ (d)):=⟨_,rfl⟩
     rw [←hft] at hFt
     replace hft:=aa hft
     cases ft with
     |false=>
      rw [show zv d true (.ok n)=if true&& !decide (n<2 ^ d) then .error 5 else .ok (d,n) from rfl,←hft.out]
      go_enter func144,ntmps144
      go_wp2_with (first|(go_at_call 177;refine hCt.out.mono ?_;rintro e w0 ⟨rfl,hb0⟩)|(go_at_call 178;refine (hPu.out _ hb0).mono ?_;rintro e w1 ⟨rfl,hb1⟩)|(go_at_call 179;refine (hpz.out _).mono ?_;rintro e w2 ⟨rfl,hb2⟩;obtain ⟨w3,hw3,hs3,hb3,hc3,hf3⟩:=ak w2 #[.int .u64 nh,.int .u64 nl] 61;have x0:=hc3 0;have x1:=hc3 1;have hl3:w2.heap.size<w3.heap.size:=(by omega);replace hs3:=aa hs3;simp at x0 x1;have hb01:=hb0.trans (hb1.mono hb0.size);have hb02:=hb01.trans (hb2.mono hb01.size);have hb04:=hb02.trans (hb3.mono hb02.size))|(go_at_call 115;refine (hFt.out _).mono ?_;rintro e w4 ⟨rfl,hb4⟩))
      exact ⟨rfl,rfl,hfin.out _ (hb04.trans (hb4.mono hb04.size))⟩
     |true=>
      rw [show zv d true (.ok n)=if true&& !decide (n<2 ^ d) then .error 5 else .ok (d,n) from rfl,←hft.out]
      rw [if_neg (by simp),hend.out]
      go_enter func144,ntmps144
      go_upto_region 17 with (first|(go_at_call 177;refine hCt.out.mono ?_;rintro e w0 ⟨rfl,hb0⟩)|(go_at_call 178;refine (hPu.out _ hb0).mono ?_;rintro e w1 ⟨rfl,hb1⟩)|(go_at_call 179;refine (hpz.out _).mono ?_;rintro e w2 ⟨rfl,hb2⟩;obtain ⟨w3,hw3,hs3,hb3,hc3,hf3⟩:=ak w2 #[.int .u64 nh,.int .u64 nl] 61;have x0:=hc3 0;have x1:=hc3 1;have hl3:w2.heap.size<w3.heap.size:=(by omega);replace hs3:=aa hs3;simp at x0 x1;have hb01:=hb0.trans (hb1.mono hb0.size);have hb02:=hb01.trans (hb2.mono hb01.size);have hb04:=hb02.trans (hb3.mono hb02.size))|(go_at_call 115;refine (hFt.out _).mono ?_;rintro e w4 ⟨rfl,hb4⟩))
      have hb05:=hb04.trans (hb4.mono hb04.size)
      obtain ⟨ql,q0,q1,e0,e1⟩:=hq.out.below hb05 hla
      have kb4:=ah hb4
      have y0:=(kb4.1 _ 0 hl3).trans x0
      have y1:=(kb4.1 _ 1 hl3).trans x1
      have hl4:=He hl3 hb4.size
      have hfx:=aa (hfin.out _ hb05)
      clear kb4 hb0 hb1 hb2 hb3 hb4 hb01 hb02 hb04 hb05 hc3 hf3 x0 x1
      go_region
      all_goals
       go_wp2
       exact bodyPost_ret (v:=.tuple #[.int .i64 _,.agg #[.int .u64 nh,.int .u64 nl]]) (by simp [results,results144,go_sem,q0,q1,ql]) rfl ⟨rfl,(by first|exact (bS hfx.out (Hh _) _ _).drew|exact bS hfx.out (Hh _) _ _)⟩
 rotate_right
 focus
  have hlz:(3:Int)<(aB.size:Int):=by omega
  clear hsz has
  have hPu:=aa (fun W hW=>(hP W hW).mono fun e w' h=>(⟨by
   obtain ⟨⟨n,er,he,h1⟩,-⟩:=h
   rcases h1 with ⟨-,rfl⟩|⟨-,T,N,rfl⟩
   ·exact ⟨n,.inl he⟩
   ·exact ⟨n,.inr ⟨T,N,he⟩⟩,h.2⟩:(∃ (n:Nat),e=.returned (.tuple #[.int .u64 n,.nilIface])∨∃ (T:TypeId) (N:Nat),e=.returned (.tuple #[.int .u64 n,.iface T (.pointer (some ⟨N,0,none⟩))]))∧Below W.heap.size W w'))
  rw [if_neg (by simp;omega)]
  clear hP hi hlen hpz
  go_enter func144,ntmps144
  go_wp2_with (first|(go_at_call 177;refine hCt.out.mono ?_;rintro e w0 ⟨rfl,hb0⟩)|(go_at_call 178;refine (hPu.out _ hb0).mono ?_;rintro e w1 ⟨⟨un,rfl|⟨T,N,rfl⟩⟩,hb1⟩))
  all_goals
   exact ⟨rfl,rfl,hfin.out _ (hb0.trans (hb1.mono hb0.size))⟩
 all_goals
  go_enter func144,ntmps144
  go_wp2_with (first|(go_at_call 177;refine hCt.out.mono ?_;rintro e w0 ⟨rfl,hb0⟩)|(go_at_call 178;refine (hPu.out _ hb0).mono ?_;rintro e w1 ⟨rfl,hb1⟩))
  exact ⟨rfl,rfl,hfin.out _ (hb0.trans (hb1.mono hb0.size))⟩
theorem uG (s:ByteArray) (w:World) (hs:s.size≤2000000) (hascii:∀ c∈s.data.toList,c.toNat<128) (h0:eR (s.data.toList.headD 0)=true) (hV:iA w):
  Calls prog 144 #[.string s] w fun e w'=>e=Bh (jZ s.data.toList)∧Below w.heap.size w w':=by
 rcases oB s.data.toList 119 with hidx|⟨i,hidx,hil⟩
 ·exact sE s w hs hascii hV hidx
 ·refine sF s w hs hascii hV i hidx ?_
  cases hl:s.data.toList with
  |nil=>rw [hl] at hil;simp at hil
  |cons c r=>
   cases i with
   |zero=>
    exfalso
    rw [hl] at h0 hidx
    unfold Lib.indexByte at hidx
    by_cases hc:(c==119)=true
    ·have:c=119:=by simpa using hc
     subst this
     exact absurd (show eR 119=true from h0) (by decide)
    ·rw [if_neg hc] at hidx
     have:=Lib.indexByte_ge r 119
     split at hidx<;>simp_all<;>omega
   |succ i=>simp
end
section
def E6 (k:Nat) (s:ByteArray) (w n a:Nat):List Value:= [.int .u8 (k:Int),.string s,.int .i64 (w:Int),.int .u64 ((n / 18446744073709551616:Nat):Int),.int .u64 ((n % 18446744073709551616:Nat):Int),.int .i64 (a:Int)]
def Bi:Except Int (Nat×List UInt8×Nat×Nat)→Ending
 | .error n=>xD n
 | .ok x=>.returned (.agg (E6 x.1 ⟨x.2.1.toArray⟩ x.2.2.1 x.2.2.2 0).toArray)
theorem iZ {B g:Nat} {a w:World} (h:Below B a w) (hg:B≤g) (v0 v1 v2 v3 v4 v5:Value):Below B a ((((((w.setCell ⟨g,0,none⟩ v0).setCell ⟨g,1,none⟩ v1).setCell ⟨g,2,none⟩ v2).setCell ⟨g,3,none⟩ v3).setCell ⟨g,4,none⟩ v4).setCell ⟨g,5,none⟩ v5):=
 ((((((h.setCell (p:=⟨g,0,none⟩) hg _).setCell (p:=⟨g,1,none⟩) hg _).setCell (p:=⟨g,2,none⟩) hg _).setCell (p:=⟨g,3,none⟩) hg _).setCell (p:=⟨g,4,none⟩) hg _).setCell (p:=⟨g,5,none⟩) hg _)
theorem uH (l:List UInt8):∀ c∈l.take (aT l),c.toNat<128∧aM (c.toNat:Nat)=true:=by
 intro c hc
 have h:aM (c.toNat:Nat)=true:=by
  unfold aT at hc
  have e:l.take (l.takeWhile fun c=>aM c.toNat).length=l.takeWhile fun c=>aM c.toNat:=by
   have:=List.takeWhile_prefix (fun c:UInt8=>aM c.toNat) (l:=l)
   exact (List.prefix_iff_eq_take.1 this).symm
  rw [e] at hc
  exact (Hx.1 List.all_takeWhile) c hc
 refine ⟨?_,h⟩
 unfold aM ch fm at h
 simp only [HQ,decide_eq_true_eq] at h
 omega
attribute [local go_sem] run_panic_iface
theorem C9 (s:ByteArray) (w:World) (h0:0<s.size) (hs:s.size≤2000000) (hV:iA w):
  Calls prog 89 #[.string s] w fun e w'=>e=Bi (eT s.data.toList)∧Below w.heap.size w w':=by
 obtain ⟨wa,hwa,hsa,hba,hca,hfa⟩:=ak w #[.int .u8 0,.string ⟨#[]⟩,.int .i64 0,.int .u64 0,.int .u64 0,.int .i64 0] 141
 have z0:=hca 0
 have z1:=hca 1
 have z2:=hca 2
 have z3:=hca 3
 have z4:=hca 4
 have z5:=hca 5
 simp at z0 z1 z2 z3 z4 z5
 have hVa:=aa (hV.below hba (Hh _))
 have hla:w.heap.size<wa.heap.size:=by omega
 have hfz:=hfa
 have hfin:=aa (fun W (hW:Below wa.heap.size wa W)=>hba.trans (hW.mono hba.size))
 obtain ⟨wB,hwB⟩:∃ wB,wB=s.extract 0 (fG s):=⟨_,rfl⟩
 have hwl:wB.data.toList=s.data.toList.take (aT s.data.toList):=by rw [hwB,gL];rfl
 have hW:=aa (fun W=>fI s W (by unfold maxLen;omega))
 rw [←hwB] at hW
 have hws:wB.size≤s.size:=by rw [Lib.size_eq,hwl,Lib.size_eq];simp;omega
 have hwk:wB.size≤2000000:=by omega
 have hasc:=uH s.data.toList
 rw [←hwl] at hasc
 unfold eT
 rw [←hwl]
 simp only
 replace hsa:=aa hsa
 clear hca hfa hV hba hwB hwl hws
 have f0:=hfz 0
 have f1:=hfz 1
 have f2:=hfz 2
 have f3:=hfz 3
 have f4:=hfz 4
 have f5:=hfz 5
 clear hfz
 by_cases he:wB.data.toList= []
 ·have hem:wB.toList.isEmpty=true:=by rw [Lib.toList_data,he];rfl
  have heb:(wB.toList== [])=true:=by rw [Lib.toList_data,he];rfl
  have hel:wB.toList= []:=by rw [Lib.toList_data,he]
  rw [if_pos he]
  have hM:=AA s wa h0
  clear he hasc hwk hVa
  by_cases hm:aD s.data.toList= []
  ·rw [if_pos hm]
   have hM':=aa (hM.mono fun e w' h=>(by
    rcases h with ⟨h1,⟨-,h2⟩|⟨m,-,h3,-⟩⟩
    ·exact ⟨h2,h1⟩
    ·exact absurd hm h3:e=xD 4∧w'=wa))
   clear hM hm
   go_enter func89,ntmps89
   go_wp2_with (first|(go_at_call 73;refine (hW.out _).mono ?_;rintro e w' ⟨rfl,rfl⟩)|(go_at_call 143;refine hM'.out.mono ?_;rintro e w' ⟨rfl,rfl⟩))
   exact ⟨rfl,rfl,hfin.out _ (Hf _ _)⟩
  ·rw [if_neg hm]
   obtain ⟨mB,hmB⟩:∃ mB:ByteArray,mB=⟨(aD s.data.toList).toArray⟩:=⟨_,rfl⟩
   have hM':=aa (hM.mono fun e w' h=>(by
    rcases h with ⟨h1,⟨h3,-⟩|⟨m,h2,-,h4⟩⟩
    ·exact absurd h3 hm
    ·exact ⟨by rw [h4,hmB,←h2],h1⟩:e=.returned (.string mB)∧w'=wa))
   rw [show Bi (.ok (3,aD s.data.toList,0,0))=.returned (.agg #[.int .u8 3,.string mB,.int .i64 0,.int .u64 0,.int .u64 0,.int .i64 0]) from by rw [hmB];simp [Bi,E6]]
   clear hM hm hmB
   go_enter func89,ntmps89
   go_wp2_with (first|(go_at_call 73;refine (hW.out _).mono ?_;rintro e w' ⟨rfl,rfl⟩)|(go_at_call 143;refine hM'.out.mono ?_;rintro e w' ⟨rfl,rfl⟩))
   exact bodyPost_ret (v:=.agg #[.int .u8 3,.string mB,.int .i64 0,.int .u64 0,.int .u64 0,.int .i64 0]) (by simp [results,results89,go_sem,z0,z1,z2,z3,z4,z5]) rfl ⟨rfl,iZ (hfin.out _ (Hf _ _)) (Hh _) _ _ _ _ _ _⟩
 ·have hem:wB.toList.isEmpty=false:=by
   rw [Lib.toList_data];cases h:wB.data.toList with|nil=>exact absurd h he|cons _ _=>rfl
  have hel:¬wB.toList= []:=by rw [Lib.toList_data];exact he
  have heb:(wB.toList== [])=false:=beq_eq_false_iff_ne.2 hel
  have hw0:0<wB.size:=by rw [Lib.size_eq];exact H3.2 he
  have hwz:(0:Int)<(wB.size:Int):=by omega
  have hwl:wB.size≤9223372036854775807:=by omega
  rw [if_neg he]
  have hhd:eR (wB.data.toList.headD 0)=ch ((wB[0].toNat:Nat):Int):=by rw [vv hw0];rfl
  have hD:=aa (fun W=>fo ((wB[0].toNat:Nat):Int) W)
  rw [←hhd] at hD
  clear hel he h0
  cases hd:eR (wB.data.toList.headD 0) with
  |true=>
   have hN:=aa (fun (W:World) (hW:Below wa.heap.size wa W)=>uG wB W hwk (fun c hc=>(hasc c hc).1) hd (hVa.out.below hW (Hh _)))
   rw [hd] at hD
   rw [if_pos rfl]
   clear hhd hd hasc hVa
   generalize jZ wB.data.toList=R at hN
   cases R with
   |error n=>
    replace hN:=aa (fun (W:World) (hW:Below wa.heap.size wa W)=>show Calls prog _ _ W fun e w'=>e=xD n∧Below W.heap.size W w' from hN.out W hW)
    go_enter func89,ntmps89
    go_wp2_with (first|(go_at_call 73;refine (hW.out _).mono ?_;rintro e w' ⟨rfl,rfl⟩)|(go_at_call 74;refine (hD.out _).mono ?_;rintro e w' ⟨rfl,rfl⟩)|(go_at_call 144;refine (hN.out _ (Hf _ _)).mono ?_;rintro e w3 ⟨rfl,hb3⟩))
    exact ⟨rfl,rfl,hfin.out _ hb3⟩
   |ok x=>
    obtain ⟨a,n⟩:=x
    show Calls _ _ _ _ fun e w'=>e=.returned (.agg #[.int .u8 2,.string wB,.int .i64 (a:Int),.int .u64 ((n / 18446744073709551616:Nat):Int),.int .u64 ((n % 18446744073709551616:Nat):Int),.int .i64 0])∧_
    replace hN:=aa (fun (W:World) (hW:Below wa.heap.size wa W)=>show Calls prog _ _ W fun e w'=>e=.returned (.tuple #[.int .i64 (a:Int),.agg #[.int .u64 ((n / 18446744073709551616:Nat):Int),.int .u64 ((n % 18446744073709551616:Nat):Int)]])∧Below W.heap.size W w' from hN.out W hW)
    generalize ((n / 18446744073709551616:Nat):Int)=nh at hN
    generalize ((n % 18446744073709551616:Nat):Int)=nl at hN
    generalize (a:Int)=az at hN
    go_enter func89,ntmps89
    go_wp2_with (first|(go_at_call 73;refine (hW.out _).mono ?_;rintro e w' ⟨rfl,rfl⟩)|(go_at_call 74;refine (hD.out _).mono ?_;rintro e w' ⟨rfl,rfl⟩)|(go_at_call 144;refine (hN.out _ (Hf _ _)).mono ?_;rintro e w3 ⟨rfl,hb3⟩;obtain ⟨w4,hw4,hs4,hb4,hc4,hf4⟩:=ak w3 #[.int .u64 nh,.int .u64 nl] 61;have x0:=hc4 0;have x1:=hc4 1;replace hs4:=aa hs4;simp at x0 x1;have hb34:=hb3.trans (hb4.mono hb3.size);have kb4:=ah hb34;have q4:=He hla hb34.size;have y0:=(kb4.1 _ 0 hla).trans z0;have y1:=(kb4.1 _ 1 hla).trans z1;have y2:=(kb4.1 _ 2 hla).trans z2;have y3:=(kb4.1 _ 3 hla).trans z3;have y4:=(kb4.1 _ 4 hla).trans z4;have y5:=(kb4.1 _ 5 hla).trans z5;have g0:=(kb4.2 _ 0 hla).trans f0;have g1:=(kb4.2 _ 1 hla).trans f1;have g2:=(kb4.2 _ 2 hla).trans f2;have g3:=(kb4.2 _ 3 hla).trans f3;have g4:=(kb4.2 _ 4 hla).trans f4;have g5:=(kb4.2 _ 5 hla).trans f5))
    exact bodyPost_ret (v:=.agg #[.int .u8 2,.string wB,.int .i64 az,.int .u64 nh,.int .u64 nl,.int .i64 0]) (by simp [results,results89,go_sem,y0,y1,y2,y3,y4,y5,q4]) rfl ⟨rfl,iZ (hfin.out _ hb34) (Hh _) _ _ _ _ _ _⟩
  |false=>
   rw [hd] at hD
   rw [if_neg (by simp)]
   clear hhd hd hasc hVa
   by_cases h16:16<wB.data.toList.length
   ·rw [if_pos h16]
    rw [←Lib.size_eq] at h16
    have h16z:(16:Int)<(wB.size:Int):=by omega
    replace h16:=aa h16
    go_enter func89,ntmps89
    go_wp2_with (first|(go_at_call 73;refine (hW.out _).mono ?_;rintro e w' ⟨rfl,rfl⟩)|(go_at_call 74;refine (hD.out _).mono ?_;rintro e w' ⟨rfl,rfl⟩))
    exact ⟨rfl,rfl,hfin.out _ (Hf _ _)⟩
   ·rw [if_neg h16]
    rw [←Lib.size_eq] at h16
    have h16z:¬(16:Int)<(wB.size:Int):=by omega
    replace h16:=aa h16
    rw [show Bi (.ok (1,wB.data.toList,0,0))=.returned (.agg #[.int .u8 1,.string wB,.int .i64 0,.int .u64 0,.int .u64 0,.int .i64 0]) from by simp [Bi,E6]]
    go_enter func89,ntmps89
    go_wp2_with (first|(go_at_call 73;refine (hW.out _).mono ?_;rintro e w' ⟨rfl,rfl⟩)|(go_at_call 74;refine (hD.out _).mono ?_;rintro e w' ⟨rfl,rfl⟩))
    exact bodyPost_ret (v:=.agg #[.int .u8 1,.string wB,.int .i64 0,.int .u64 0,.int .u64 0,.int .i64 0]) (by simp [results,results89,go_sem,z0,z1,z2,z3,z4,z5]) rfl ⟨rfl,iZ (hfin.out _ (Hf _ _)) (Hh _) _ _ _ _ _ _⟩
end
theorem kY (A:Option Addr) (cap:Nat) (xs:List ByteArray) (n:ByteArray) (w:World) (h:Sl 1 bZ w w.heap.size A xs):
  Calls prog 30 #[.slice A xs.length cap,.string n] w fun e w'=>e=.returned (.int .i64 (aU xs n))∧w=w':=by
 have hl:=h.len
 go_enter func30,ntmps30
 go_wp2
 go_loop [8] (fun i=>∃ k:Nat,k≤xs.length∧i=.int .i64 k∧n∉xs.take k) (fun i=>xs.length-(intOf i).toNat)
 case atStart=>exact ⟨0,Hm _,rfl,by simp⟩
 case round=>
  obtain ⟨k,hk,rfl,hc⟩:=hrel
  by_cases hlt:k<xs.length
  ·obtain ⟨b,o,rfl,hb,hcell,-⟩:=h.str hlt
   clear h
   by_cases he:xs[k]=n
   ·have ht:=j0 he.symm
    have hv:=aa (ji hlt hc he)
    clear he
    go_wp2
    go_ret
    exact ⟨aq hv.out.symm,rfl⟩
   ·have ht:=mD (fun e=>he (Eq.symm e))
    have hv:=aa (cM hlt hc he)
    clear he
    go_wp2
    go_round
    case rel=>exact ⟨k+1,by omega,by go_num,hv.out⟩
    case measure=>simp [intOf];omega
  ·have hv:=aa (rz (dB hk hlt hc))
   go_wp2
   go_ret
   exact ⟨aq hv.out.symm,rfl⟩
theorem zm.more {w:World} {B B':Nat} {A1 A2 A3 A4 A5 A6 A7:Option Addr} {p:Pg} (h:zm w B A1 A2 A3 A4 A5 A6 A7 p) (hB:B≤B'):zm w B' A1 A2 A3 A4 A5 A6 A7 p:=
 ⟨h.1.more zD hB,h.2.more j7 hB,h.3.more zG hB,h.4.more zH hB,h.5.more zJ hB,h.6.more qt hB,h.7.more av hB⟩
theorem zm.grown {wb:World} {B:Nat} {A1 A2 A3 A4 A5 A6 A7:Option Addr} {p:Pg} (h:zm wb B A1 A2 A3 A4 A5 A6 A7 p) (hB:B≤wb.heap.size) (d:Nat) (os:Array Obj):
  B≤(Ht (redrawn wb d) os).heap.size∧zm (Ht (redrawn wb d) os) B A1 A2 A3 A4 A5 A6 A7 p:=
 ⟨Hj hB (E8 wb d os),h.below ((below_regrown wb d os).mono hB)⟩
end Go.Proofs.YtiebolhmdhdagaaGreatDoor

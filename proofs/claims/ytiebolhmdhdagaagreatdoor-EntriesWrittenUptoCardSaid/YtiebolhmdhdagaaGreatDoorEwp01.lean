import Derived.Lib.IndexMore
import Derived.Lib.SlTrimSet
import Derived.Lib.Case
import Derived.Lib.ParseIntB
import Derived.Lib.Join
import Derived.Test.YtiebolhmdhdagaaGreatDoorRows
import Derived.WalkSpells
import Derived.WalkLawsBesides
import Derived.BigQuiet
import Derived.Deep.AppendLies
import Derived.Lib.QuietBelow
set_option linter.all false
namespace Go.Proofs.YtiebolhmdhdagaaGreatDoor
open _root_.Nat renaming lt_of_lt_of_le→He, le_refl→Hh, le_trans→Hj, mul_le_mul_right→Ib, pow_le_pow_right→Ic
open _root_.Go.RowKit.Below renaming refl→Hf
open _root_.Bool renaming and_eq_true→Hl, eq_iff_iff→Hr, false_eq_true→Hy, or_eq_true→HQ
open _root_.List renaming getElem?_eq_getElem→Hn, getElem_mem→Ho, length_cons→Hp, getElem_of_mem→Hw, all_eq_true→Hx, isPrefixOf→HC, mem_cons→HD, mem_cons_self→HE, length_take→HF, mem_cons_of_mem→HI, mem_map→HN, take_succ_eq_append_getElem→HR, getElem?_eq_some_iff→HV, drop_zero→HX, mem_append→H0, length_drop→H1, append_nil→H2, length_pos_iff→H3, drop_eq_getElem_cons→H4, cons_append→H6, flatMap_cons→H7, eq_nil_of_length_eq_zero→H8, take_of_length_le→Ia
open _root_.Go.Sort renaming grow→Ht
open Go.RowKit
section
open Go.Lib
def ch (c:Int):Bool:=decide (48≤c∧c≤57)
def fm (c:Int):Bool:=decide (97≤c∧c≤122∨65≤c∧c≤90∨c=95)
def aM (c:Int):Bool:=ch c ||fm c
def dO:List (List UInt8)→List UInt8
 | []=> []
 |w::r=>w++32::dO r
theorem mi (x:List UInt8):∀ (w r:List UInt8),(32:UInt8)∉w→(0≤index (w++r) (32::x)↔0≤index r (32::x))
 | [],r,_=>by simp
 |b::w,r,h=>by
  simp only [HD,not_or] at h
  have ih:=mi x w r h.2
  have g:=index_ge (w++r) (32::x)
  have hp:HC (32::x) (b::(w++r))=false:=by
   simp only [HC,Bool.and_eq_false_iff,beq_eq_false_iff_ne]
   exact .inl h.1
  simp only [H6,index,hp,Hy,if_false]
  by_cases e:index (w++r) (32::x)= -1
  ·simp [e] at ih ⊢;exact ih
  ·simp only [beq_iff_eq,e,if_false];rw [←ih];omega
theorem kM:∀ (s w:List UInt8) (r:List UInt8),(32:UInt8)∉s→(32:UInt8)∉w→(HC (s++ [32]) (w++32::r)=true↔s=w)
 | [],[],r,_,_=>by simp [HC]
 | [],b::w,r,_,hw=>by
  simp only [HD,not_or] at hw
  simp [HC,hw.1]
 |a::s,[],r,hs,_=>by
  simp only [HD,not_or] at hs
  simp [HC]
  intro e;exact absurd e.symm hs.1
 |a::s,b::w,r,hs,hw=>by
  simp only [HD,not_or] at hs hw
  have ih:=kM s w r hs.2 hw.2
  simp [HC] at ih ⊢
  intro _;exact ih
theorem ga (s:List UInt8) (hs:(32:UInt8)∉s) (hne:s≠ []):∀ ws:List (List UInt8),(∀ w∈ws,(32:UInt8)∉w)→
  (0≤index (32::dO ws) (32::(s++ [32]))↔s∈ws)
 | [],_=>by
  cases s with
  |nil=>exact absurd rfl hne
  |cons a s=>simp [dO,index,HC]
 |w::r,hw=>by
  have ih:=ga s hs hne r (fun x hx=>hw x (HI _ hx))
  have hww:=hw w HE
  have hp:=kM s w (dO r) hs hww
  have hk:=mi (s++ [32]) w (32::dO r) hww
  have g:=index_ge (w++32::dO r) (32::(s++ [32]))
  have hq:HC (32::(s++ [32])) (32::(w++32::dO r))=HC (s++ [32]) (w++32::dO r):=by simp [HC]
  simp only [dO]
  unfold index
  rw [hq]
  by_cases e:s=w
  ·rw [hp.2 e];simp [e]
  ·have:HC (s++ [32]) (w++32::dO r)=false:=by
    rw [Bool.eq_false_iff];exact fun h=>e (hp.1 h)
   rw [this]
   simp only [Hy,if_false,HD,e,false_or]
   rw [←ih,←hk]
   by_cases e2:index (w++32::dO r) (32::(s++ [32]))= -1
   ·simp [e2]
   ·simp only [beq_iff_eq,e2,if_false];omega
theorem oT (s:List UInt8):0≤index s [32]↔(32:UInt8)∈s:=by
 induction s with
 |nil=>simp [index]
 |cons b l ih=>
  have g:=index_ge l [32]
  by_cases e:b=32
  ·simp [index,HC,e]
  ·have e':¬(32:UInt8)=b:=fun h=>e h.symm
   simp only [index,HC,Bool.and_true,beq_iff_eq,e',if_false,HD,false_or,←ih]
   by_cases e2:index l [32]= -1
   ·simp [e2]
   ·simp only [e2,if_false];omega
def Cx:List (List UInt8):= ["header", "metadata", "bit", "parser", "state", "extract", "transition", "select", "accept", "reject", "default", "action", "table", "key", "actions", "exact", "lpm", "ternary", "control", "apply", "if", "else", "drop", "forward", "valid", "invalid", "deparser", "emit", "meta", "port", "isValid", "_"].map fun s=>s.toUTF8.data.toList
def wO (s:ByteArray):Bool:=decide (s.data.toList∈Cx)
def bj (s:ByteArray):Bool:=decide (1≤s.size∧s.size≤16)&& !ch ((s.data.toList.headD 0).toNat)&& !wO s&&s.data.toList.all fun c=>aM c.toNat
theorem ie:∀ w∈Cx,(32:UInt8)∉w:=by decide+kernel
theorem oU: []∉Cx:=by decide+kernel
theorem D2 (s:List UInt8) (t:List UInt8) (ht:t=32::dO Cx):
  (s≠ []∧contains s [32]=false∧contains t (32::(s++ [32]))=true)↔s∈Cx:=by
 subst ht
 unfold contains
 have h1:=oT s
 constructor
 ·rintro ⟨hne,hb,hc⟩
  simp only [decide_eq_false_iff_not,decide_eq_true_eq] at hb hc
  exact (ga s (fun h=>hb (h1.2 h)) hne Cx ie).1 hc
 ·intro h
  have hb:=ie s h
  have hne:s≠ []:=fun e=>oU (e ▸ h)
  refine ⟨hne,?_,?_⟩
  ·simp only [decide_eq_false_iff_not];exact fun g=>hb (h1.1 g)
  ·simp only [decide_eq_true_eq];exact (ga s hb hne Cx ie).2 h
theorem wP {s:ByteArray} (h:s.toList= []):wO s=false:=by
 rw [ByteArray.toList_eq] at h
 simp only [wO,h,decide_eq_false_iff_not];exact oU
theorem wQ {s:ByteArray} (hb:contains s.data.toList (ByteArray.mk #[32]).data.toList=true):wO s=false:=by
 have h1:(32:UInt8)∈s.data.toList:=(oT _).1 (by simpa [contains] using hb)
 simp only [wO,decide_eq_false_iff_not];exact fun h=>ie _ h h1
theorem D3 (s:ByteArray) (C:List UInt8) (hC:C=32::dO Cx) (h0:¬s.toList= []) (hb:contains s.data.toList (ByteArray.mk #[32]).data.toList=false):
  contains C (ByteArray.mk #[32]++s++ByteArray.mk #[32]).data.toList=wO s:=by
 rw [ByteArray.toList_eq] at h0
 have e:(ByteArray.mk #[32]++s++ByteArray.mk #[32]).data.toList=32::(s.data.toList++ [32]):=by simp
 have:=D2 s.data.toList C hC
 rw [Hr,e,wO,decide_eq_true_eq,←this]
 exact ⟨fun h=>⟨h0,hb,h⟩,fun h=>h.2.2⟩
def aT (l:List UInt8):Nat:=(l.takeWhile fun c=>aM c.toNat).length
theorem mj:∀ (l:List UInt8) (k:Nat) (hk:k<l.length),k≤aT l→aM (l[k].toNat:Nat)=true→k+1≤aT l
 | [],k,hk,_,_=>absurd hk (by simp)
 |c::l,0,_,_,hw=>by simp at hw;simp [aT,hw]
 |c::l,k+1,hk,hl,hw=>by
  by_cases hc:aM (c.toNat:Nat)=true
  ·have ih:=mj l k (by simpa using hk) (by simpa [aT,hc] using hl) (by simpa using hw)
   simpa [aT,hc] using ih
  ·simp [aT,hc] at hl
theorem mo:∀ (l:List UInt8) (k:Nat) (hk:k<l.length),k≤aT l→aM (l[k].toNat:Nat)=false→aT l=k
 | [],k,hk,_,_=>absurd hk (by simp)
 |c::l,0,_,_,hw=>by simp at hw;simp [aT,hw]
 |c::l,k+1,hk,hl,hw=>by
  by_cases hc:aM (c.toNat:Nat)=true
  ·have ih:=mo l k (by simpa using hk) (by simpa [aT,hc] using hl) (by simpa using hw)
   simpa [aT,hc] using ih
  ·simp [aT,hc] at hl
theorem mp:∀ l:List UInt8,aT l≤l.length
 | []=>by simp [aT]
 |c::l=>by
  have:=mp l
  by_cases hc:aM (c.toNat:Nat)=true<;>simp [aT,hc] at this ⊢;exact this
theorem ig:∀ l:List UInt8,aT l=l.length↔l.all (fun c=>aM c.toNat)=true
 | []=>by simp [aT]
 |c::l=>by
  have:=ig l
  by_cases hc:aM (c.toNat:Nat)=true<;>simp [aT,hc] at this ⊢;exact this
def fG (s:ByteArray):Nat:=aT s.data.toList
theorem oV {s:ByteArray} {k:Nat} (hk:k<s.size) (h:k≤fG s) (hw:aM (s[k].toNat:Nat)=true):k+1≤fG s:=
 mj _ k (by simpa using hk) h hw
theorem oW {s:ByteArray} {k:Nat} (hk:k<s.size) (h:k≤fG s) (hw:aM (s[k].toNat:Nat)=false):fG s=k:=
 mo _ k (by simpa using hk) h hw
theorem vt (s:ByteArray):fG s≤s.size:=by have:=mp s.data.toList;simpa [fG] using this
theorem rt {s:ByteArray} {k:Nat} (hk:k≤s.size) (hn:¬k<s.size) (h:k≤fG s):fG s=k:=by have:=vt s;omega
theorem wR (s:ByteArray):((s.extract 0 (fG s)).toList==s.toList)=s.data.toList.all fun c=>aM c.toNat:=by
 have ha:=ig s.data.toList
 have hl:=vt s
 rw [Hr,←ha,ByteArray.toList_eq,ByteArray.toList_eq,beq_iff_eq]
 constructor
 ·intro h
  have:=congrArg List.length h
  simp at this
  simp [fG] at this hl ⊢;omega
 ·intro h
  have e:fG s=s.size:=by simpa [fG] using h
  rw [e];simp
theorem iD {s:ByteArray} (h:0<s.size):s.toList.isEmpty=false:=by
 rw [ByteArray.toList_eq]
 have:s.data.toList.length=s.size:=by simp
 cases he:s.data.toList with
 |nil=>rw [he] at this;simp at this;omega
 |cons a l=>rfl
theorem jf {s:ByteArray} (h:¬0<s.size):s.toList.isEmpty=true:=by
 rw [ByteArray.toList_eq]
 have:s.data.toList.length=s.size:=by simp
 cases he:s.data.toList with
 |nil=>rfl
 |cons a l=>rw [he] at this;simp at this;omega
theorem mr {s:ByteArray} (h:0<s.size):s.data.toList.headD 0=s[0]:=by
 have e:s[0]=s.data.toList[0]'(by simpa using h):=by simp;rfl
 have g:∀ (l:List UInt8) (hl:0<l.length),l.headD 0=l[0]:=fun l hl=>by
  cases l with
  |nil=>simp at hl
  |cons a l=>simp
 rw [e];exact g _ _
theorem zs (s:ByteArray):bj s=(((s.extract 0 (fG s)).toList==s.toList)&& !s.toList.isEmpty&&decide (s.size≤16)&& !ch ((s.data.toList.headD 0).toNat:Nat)&& !wO s):=by
 rw [wR]
 by_cases h0:0<s.size
 ·rw [iD h0]
  have:(decide (1≤s.size∧s.size≤16))=decide (s.size≤16):=by simp;omega
  rw [bj,this]
  cases s.data.toList.all fun c=>aM (c.toNat:Nat)<;>simp
 ·rw [jf h0]
  have:(decide (1≤s.size∧s.size≤16))=false:=by simp;omega
  rw [bj,this];simp
def ed:List ByteArray:= [⟨#[104,101,97,100,101,114]⟩,⟨#[109,101,116,97,100,97,116,97]⟩,⟨#[98,105,116]⟩,⟨#[112,97,114,115,101,114]⟩,⟨#[115,116,97,116,101]⟩,⟨#[101,120,116,114,97,99,116]⟩,⟨#[116,114,97,110,115,105,116,105,111,110]⟩,⟨#[115,101,108,101,99,116]⟩,⟨#[97,99,99,101,112,116]⟩,⟨#[114,101,106,101,99,116]⟩,⟨#[100,101,102,97,117,108,116]⟩,⟨#[97,99,116,105,111,110]⟩,⟨#[116,97,98,108,101]⟩,⟨#[107,101,121]⟩,⟨#[97,99,116,105,111,110,115]⟩,⟨#[101,120,97,99,116]⟩,⟨#[108,112,109]⟩,⟨#[116,101,114,110,97,114,121]⟩,⟨#[99,111,110,116,114,111,108]⟩,⟨#[97,112,112,108,121]⟩,⟨#[105,102]⟩,⟨#[101,108,115,101]⟩,⟨#[100,114,111,112]⟩,⟨#[102,111,114,119,97,114,100]⟩,⟨#[118,97,108,105,100]⟩,⟨#[105,110,118,97,108,105,100]⟩,⟨#[100,101,112,97,114,115,101,114]⟩,⟨#[101,109,105,116]⟩,⟨#[109,101,116,97]⟩,⟨#[112,111,114,116]⟩,⟨#[105,115,86,97,108,105,100]⟩,⟨#[95]⟩]
theorem wS:ed.map (fun s=>s.data.toList)=Cx:=by decide+kernel
instance:LawfulBEq ByteArray where
 eq_of_beq {a b} h:=by rw [Go.beq_toListBytes,beq_iff_eq,ByteArray.toList_eq,ByteArray.toList_eq] at h;exact Go.WideShapes.bytes_inj h
 rfl {a}:=by rw [Go.beq_toListBytes,beq_iff_eq]
theorem Cz (s:ByteArray):wO s=decide (s∈ed):=by
 rw [wO,Hr,decide_eq_true_eq,decide_eq_true_eq,←wS,HN]
 exact ⟨fun ⟨a,ha,e⟩=>by rw [←Go.WideShapes.bytes_inj e];exact ha,fun h=>⟨s,h,rfl⟩⟩
theorem tY:∀ s∈ed,s.size≤16:=by decide+kernel
end
section
open Go.Lib
theorem mt (s:ByteArray) (a b:Nat):(s.extract a b).data.toList=(s.data.toList.take b).drop a:=by
 simp only [ByteArray.data_extract,Array.toList_extract,List.extract_eq_take_drop]
 rw [List.drop_take]
theorem jg (s:ByteArray) (a:Nat):(s.extract a s.size).data.toList=s.data.toList.drop a:=by
 rw [mt,Ia (by rw [size_eq];exact Hh _)]
theorem gL (s:ByteArray) (b:Nat):(s.extract 0 b).data.toList=s.data.toList.take b:=by rw [mt,HX]
theorem ij (s:ByteArray) {k:Nat} (h:k<s.size):s.data.toList.drop k=s[k]::s.data.toList.drop (k+1):=by
 rw [H4 (by rw [←size_eq];exact h)]
 rfl
def lG (c:UInt8):Bool:=c==32 ||c==9 ||c==10
def cq:Bool→List UInt8→Nat
 |_,[]=>0
 |false,c::r=>if lG c then cq false r+1 else if c=47∧r.head? =some 47 then cq true r+1 else 0
 |true,c::r=>if c=10 then cq false r+1 else cq true r+1
theorem jY:∀ (b:Bool) (l:List UInt8),cq b l≤l.length
 |_,[]=>by simp [cq]
 |false,c::r=>by
  have h1:=jY false r
  have h2:=jY true r
  simp only [cq,Hp]
  split
  ·omega
  ·split<;>omega
 |true,c::r=>by
  have h1:=jY false r
  have h2:=jY true r
  simp only [cq,Hp]
  split<;>omega
theorem ru {l:List UInt8} (h:hasPrefix l [47,47]=true):cq false l=cq true l:=by
 match l,h with
 | [],h=>simp [hasPrefix,HC] at h
 | [a],h=>simp [hasPrefix,HC] at h
 |a::b::r,h=>
  simp [hasPrefix,HC] at h
  obtain ⟨rfl,rfl⟩:=h
  simp [cq,lG]
theorem zt {l:List UInt8} (h:hasPrefix l [47,47]=false) (hw:∀ c r,l=c::r→lG c=false):cq false l=0:=by
 match l,h with
 | [],_=>rfl
 |c::r,h=>
  have:=hw c r rfl
  simp only [cq,this,Hy,if_false]
  rw [if_neg]
  rintro ⟨rfl,h2⟩
  cases r with
  |nil=>simp at h2
  |cons b r=>simp at h2;subst h2;simp [hasPrefix,HC] at h
theorem mu:∀ (l:List UInt8),if indexByte l 10= -1 then cq true l=l.length else ∃ n:Nat,indexByte l 10=n∧n<l.length∧cq true l=n+cq false (l.drop n)
 | []=>by simp [indexByte,cq]
 |c::r=>by
  have ih:=mu r
  have hge:=indexByte_ge r 10
  by_cases hc:c=10
  ·subst hc
   have hi:indexByte (10::r) 10=0:=by simp [indexByte]
   rw [if_neg (by omega)]
   refine ⟨0,by simp [indexByte],by simp,?_⟩
   simp [cq,lG]
  ·have hc':(c==10)=false:=by simpa using hc
   by_cases hn:indexByte r 10= -1
   ·rw [if_pos hn] at ih
    have hi:indexByte (c::r) 10= -1:=by simp [indexByte,hc',hn]
    rw [if_pos hi]
    simp only [cq,if_neg hc,ih,Hp]
   ·rw [if_neg hn] at ih
    obtain ⟨n,h1,h2,h3⟩:=ih
    have hi:indexByte (c::r) 10=(n+1:Nat):=by simp [indexByte,hc',hn,h1]
    rw [if_neg (by omega)]
    refine ⟨n+1,hi,by simp;omega,?_⟩
    simp only [cq,if_neg hc,h3,List.drop_succ_cons]
    omega
def di (s:ByteArray) (k:Nat):Nat:=k+cq false (s.data.toList.drop k)
theorem mw {s:ByteArray} {k:Nat} (h:k<s.size) (hw:lG s[k]=true):di s (k+1)=di s k:=by
 unfold di
 rw [ij s h]
 simp only [cq,hw,if_true]
 omega
theorem wT {s:ByteArray} {k:Nat} (h:¬k<s.size):di s k=k:=by
 unfold di
 rw [List.drop_eq_nil_of_le (by rw [←size_eq];omega)]
 rfl
theorem tZ {s:ByteArray} {k:Nat} (h:k<s.size) (hw:lG s[k]=false) (hp:hasPrefix (s.data.toList.drop k) [47,47]=false):di s k=k:=by
 unfold di
 rw [zt hp (fun c r e=>by rw [ij s h] at e;injection e with e1 e2;rw [←e1];exact hw)]
 rfl
theorem wU {s:ByteArray} {k:Nat} (h:k≤s.size) (hp:hasPrefix (s.data.toList.drop k) [47,47]=true) (hi:indexByte (s.data.toList.drop k) 10= -1):di s k=s.size:=by
 have:=mu (s.data.toList.drop k)
 rw [if_pos hi] at this
 unfold di
 rw [ru hp,this,H1,←size_eq]
 omega
theorem ua {s:ByteArray} {k:Nat} (h:k≤s.size) (hp:hasPrefix (s.data.toList.drop k) [47,47]=true) (hi:indexByte (s.data.toList.drop k) 10≠ -1):∃ n:Nat,indexByte (s.data.toList.drop k) 10=n∧k+n<s.size∧1≤n∧di s (k+n)=di s k:=by
 have:=mu (s.data.toList.drop k)
 rw [if_neg hi] at this
 obtain ⟨n,h1,h2,h3⟩:=this
 rw [H1,←size_eq] at h2
 have h0:n≠0:=by
  rintro rfl
  match hl:s.data.toList.drop k,hp,h1 with
  | [],hp,_=>simp [hasPrefix,HC] at hp
  | [a],hp,_=>simp [hasPrefix,HC] at hp
  |a::b::r,hp,h1=>
   simp [hasPrefix,HC] at hp
   obtain ⟨rfl,rfl⟩:=hp
   have hge:=indexByte_ge r 10
   by_cases hd:indexByte r 10= -1
   ·simp [indexByte,hd] at h1
   ·have hd1:indexByte r 10+1≠ -1:=by omega
    simp [indexByte,hd,hd1] at h1
    omega
 refine ⟨n,h1,by omega,by omega,?_⟩
 unfold di
 rw [ru hp,h3,List.drop_drop]
 omega
theorem my (c:UInt8):lG c=true↔((c.toNat:Int)=32∨(c.toNat:Int)=9∨(c.toNat:Int)=10):=by
 have h:∀ n:UInt8,c=n↔(c.toNat:Int)=(n.toNat:Int):=fun n=>⟨fun e=>by rw [e],fun e=>UInt8.toNat_inj.1 (by omega)⟩
 have h1:=h 32
 have h2:=h 9
 have h3:=h 10
 simp only [lG,HQ,beq_iff_eq]
 rw [h1,h2,h3]
 show (_=(32:Int)∨_=(9:Int))∨_=(10:Int)↔_
 omega
def ax:List (List UInt8):= [[38,38,38],[61,61],[33,61],[60,61],[62,61],[60,60],[62,62],[38,38],[124,124],[43,43],[45,62]]
def cK:List UInt8:= [123,125,40,41,91,93,59,58,44,61,60,62,43,45,38,124,94,126,33,46,47]
def aH:List (List UInt8)→List UInt8→List UInt8
 | [],l=>if 0≤indexByte cK (l.headD 0) then l.take 1 else []
 |m::r,l=>if hasPrefix l m then m else aH r l
def aD (l:List UInt8):List UInt8:=aH ax l
theorem wV {s t:ByteArray} (h:s.data.toList=t.data.toList):s=t:=by
 obtain ⟨⟨a⟩⟩:=s
 obtain ⟨⟨b⟩⟩:=t
 simp only at h
 rw [h]
theorem vu {s:ByteArray} (h:0<s.size):s.extract 0 1=⟨#[s[0]]⟩:=by
 apply wV
 rw [gL]
 have:=ij s h
 rw [HX] at this
 rw [this];rfl
theorem vv {s:ByteArray} (h:0<s.size):s.data.toList.headD 0=s[0]:=by
 have:=ij s h
 rw [HX] at this
 rw [this];rfl
end
section
open Go.Lib
def aG:Bool→List UInt8
 |false=> [48,49,50,51,52,53,54,55,56,57]
 |true=> [48,49,50,51,52,53,54,55,56,57,97,98,99,100,101,102]
def dz:Bool→Nat
 |false=>10
 |true=>16
def D4 (hex:Bool) (c:UInt8):Nat:=(indexByte (aG hex) c).toNat
theorem zu:∀ (l:List UInt8) (c:UInt8),c∈l→0≤indexByte l c∧indexByte l c<l.length
 | [],c,h=>by simp at h
 |b::l,c,h=>by
  unfold indexByte
  by_cases hb:b=c
  ·simp [hb]
  ·have hc:c∈l:=by
    rcases HD.1 h with h|h
    ·exact absurd h.symm hb
    ·exact h
   have ih:=zu l c hc
   have hb':(b==c)=false:=by simpa using hb
   have hn:¬indexByte l c= -1:=by omega
   simp only [hb',Hy,if_false,beq_iff_eq,hn,Hp]
   omega
theorem rv (hex:Bool):(aG hex).length=dz hex:=by cases hex<;>rfl
theorem D5 {hex:Bool} {c:UInt8} (h:c∈aG hex):indexByte (aG hex) c=(D4 hex c:Int)∧D4 hex c<dz hex:=by
 have:=zu _ _ h
 rw [rv] at this
 unfold D4
 omega
abbrev bc:Nat:=340282366920938463463374607431768211456
def oX (hex:Bool) (x:Nat×Bool) (c:UInt8):Nat×Bool:=((x.1*dz hex+D4 hex c) % bc,x.2&&decide (x.1*dz hex+D4 hex c<bc))
def dA (hex:Bool) (r:List UInt8):Nat×Bool:=r.foldl (oX hex) (0,true)
theorem wW (hex:Bool) (r:List UInt8) {k:Nat} (h:k<r.length):dA hex (r.take (k+1))=oX hex (dA hex (r.take k)) r[k]:=by
 unfold dA
 rw [HR h,List.foldl_append]
 rfl
theorem vz (hex:Bool) (r:List UInt8):(dA hex r).1<bc:=by
 unfold dA
 rcases List.eq_nil_or_concat r with rfl|⟨l,a,rfl⟩
 ·show 0<bc
  decide
 ·rw [List.concat_eq_append,List.foldl_append]
  exact Nat.mod_lt _ (by decide)
def dP (l:List UInt8):Except Int Nat:=
 let hex:=hasPrefix l [48,120]
 let r:=if hex then toLowerA (l.drop 2) else l
 if r= [] then .error 4 else if r.all (fun c=>(aG hex).contains c) then (if (dA hex r).2 then .ok (dA hex r).1 else .error 5) else .error 4
theorem ub {α:Type} (p:α→Bool):∀ l:List α,l.dropWhile p= []↔∀ x∈l,p x=true
 | []=>by simp
 |a::l=>by
  have ih:=ub p l
  by_cases h:p a=true
  ·simp [List.dropWhile_cons,h,ih]
  ·simp [List.dropWhile_cons,h]
theorem qp (l cs:List UInt8):trimLeftS l cs= []↔l.all (fun c=>cs.contains c)=true:=by
 unfold trimLeftS
 rw [ub,Hx]
theorem oz (l cs:List UInt8):(trimRightS l cs).all (fun c=>cs.contains c)=true↔l.all (fun c=>cs.contains c)=true:=by
 unfold trimRightS
 rw [List.all_reverse]
 constructor
 ·intro h
  have h2:l.reverse.dropWhile (cs.contains ·)= []:=by
   rcases hd:l.reverse.dropWhile (cs.contains ·) with _|⟨a,r⟩
   ·rfl
   ·have h3:cs.contains a=true:=by
     rw [hd] at h
     simp only [List.all_cons,Hl] at h
     exact h.1
    have h4:=List.head_dropWhile_not (p:=(cs.contains ·)) (l:=l.reverse) (by rw [hd];simp)
    simp only [hd,List.head_cons] at h4
    rw [h3] at h4;cases h4
  rw [ub] at h2
  rw [Hx]
  intro x hx
  exact h2 x (by simpa using hx)
 ·intro h
  rw [Hx] at h ⊢
  intro x hx
  exact h x (by have:=(List.dropWhile_suffix (cs.contains ·) (l:=l.reverse)).subset hx;simpa using this)
theorem wX (l cs:List UInt8):trimS l cs= []↔l.all (fun c=>cs.contains c)=true:=by
 unfold trimS
 rw [qp,oz]
end
section
open Go.Lib
structure Tk where
 kind:Nat
 s:List UInt8
 w:Nat
 n:Nat
 pl:Nat
def oA (l:List UInt8):Nat:=l.foldl (fun a c=>a*10+(c.toNat-48)) 0
def eR (c:UInt8):Bool:=ch (c.toNat:Nat)
def zv (w:Nat) (wide:Bool):Except Int Nat→Except Int (Nat×Nat)
 | .error e=>.error e
 | .ok n=>if wide&& !decide (n<2 ^ w) then .error 5 else .ok (w,n)
def qq (w:Nat) (wide:Bool) (l:List UInt8):Except Int (Nat×Nat):=zv w wide (dP l)
def jZ (l:List UInt8):Except Int (Nat×Nat):=
 let i:=indexByte l 119
 if 0≤i then
  let a:=l.take i.toNat
  if a.all eR&&decide (a.length≤3) then
   if oA a<1∨128<oA a then .error 10 else qq (oA a) true (l.drop (i.toNat+1))
  else .error 4
 else qq 0 false l
def eT (l:List UInt8):Except Int (Nat×List UInt8×Nat×Nat):=
 let w:=l.take (aT l)
 if w= [] then (if aD l= [] then .error 4 else .ok (3,aD l,0,0))
 else if eR (w.headD 0) then
  match jZ w with
  | .error e=>.error e
  | .ok x=>.ok (2,w,x.1,x.2)
 else if 16<w.length then .error 3 else .ok (1,w,0,0)
def fH:Nat→Nat→List UInt8→Except (Int×Nat) (List Tk)
 |0,_,_=>.ok []
 |fuel+1,at_,l=>
  let g:=cq false l
  if l.drop g= [] then .ok [⟨0,[],0,0,at_+g⟩]
  else match eT (l.drop g) with
   | .error e=>.error (e,at_+g)
   | .ok x=>match fH fuel (at_+g+x.2.1.length) ((l.drop g).drop x.2.1.length) with
    | .error e=>.error e
    | .ok r=>.ok (⟨x.1,x.2.1,x.2.2.1,x.2.2.2,at_+g⟩::r)
def eU (l:List UInt8):Except (Int×Nat) (List Tk):=if 65536<l.length then .error (3,0) else fH (l.length+1) 0 l
theorem oB (l:List UInt8) (c:UInt8):indexByte l c= -1∨∃ n:Nat,indexByte l c=n∧n<l.length:=by
 induction l with
 |nil=>exact .inl rfl
 |cons b l ih=>
  unfold indexByte
  by_cases hb:(b==c)=true
  ·rw [if_pos hb];exact .inr ⟨0,rfl,by simp⟩
  ·rw [if_neg hb]
   rcases ih with ih|⟨n,h1,h2⟩
   ·rw [ih];exact .inl rfl
   ·rw [h1]
    have:((n:Int)== -1)=false:=by rw [beq_eq_false_iff_ne];omega
    rw [if_neg (by rw [this];simp)]
    exact .inr ⟨n+1,by omega,by simp;omega⟩
theorem DQ (l:List UInt8):cut l [119]=if 0≤indexByte l 119 then (l.take (indexByte l 119).toNat,l.drop ((indexByte l 119).toNat+1),true) else (l,[],false):=by
 unfold cut
 rw [Go.Lib.index_one]
 rfl
theorem iE:∀ (l:List UInt8) (acc:Nat),l.all eR=true→(acc+1)*10 ^ l.length≤1000→parseUintM 65535 acc l=.ok (l.foldl (fun a c=>a*10+(c.toNat-48)) acc)∧l.foldl (fun a c=>a*10+(c.toNat-48)) acc<(acc+1)*10 ^ l.length
 | [],acc,_,h=>⟨rfl,by simp⟩
 |c::r,acc,h,hk=>by
  simp only [List.all_cons,Hl] at h
  have hd:48≤c.toNat∧c.toNat≤57:=by
   have:=h.1
   unfold eR ch at this
   rw [decide_eq_true_eq] at this
   omega
  have hp:0<10 ^ r.length:=Nat.pow_pos (by decide)
  have hstep:acc*10+(c.toNat-48)+1≤(acc+1)*10:=by omega
  have hle:(acc*10+(c.toNat-48)+1)*10 ^ r.length≤(acc+1)*10 ^ (c::r).length:=by
   rw [Hp,Nat.pow_succ,Nat.mul_comm (10 ^ r.length) 10,←Nat.mul_assoc]
   exact Ib _ hstep
  have hb:acc*10+(c.toNat-48)+1≤(acc*10+(c.toNat-48)+1)*10 ^ r.length:=Nat.le_mul_of_pos_right _ hp
  have ih:=iE r (acc*10+(c.toNat-48)) h.2 (Hj hle hk)
  refine ⟨?_,He ih.2 hle⟩
  unfold parseUintM
  rw [if_pos hd,if_neg (by omega),if_neg (by omega),ih.1]
  rfl
theorem mz:∀ (l:List UInt8) (acc:Nat),l.all eR=false→l.length≤3→∀ u,parseUintM 65535 acc l≠ .ok u
 | [],_,h,_,_=>by simp at h
 |c::r,acc,h,hk,u=>by
  unfold parseUintM
  by_cases hd:48≤c.toNat∧c.toNat≤57
  ·rw [if_pos hd]
   split
   ·simp
   ·split
    ·simp
    ·refine mz r _ ?_ (by simp at hk;omega) u
     have hc:eR c=true:=by unfold eR ch;rw [decide_eq_true_eq];omega
     simpa [hc] using h
  ·rw [if_neg hd];simp
theorem oC {l:List UInt8} (h0:l≠ []) (h:l.all eR=true) (hk:l.length≤3):parseUintB 16 l=.ok (oA l)∧oA l<1000:=by
 have hp:10 ^ l.length≤1000:=Ic (n:=10) (by decide) hk
 have:=iE l 0 h (by omega)
 refine ⟨?_,by unfold oA;omega⟩
 unfold parseUintB
 rw [if_neg h0]
 exact this.1
theorem uc {l:List UInt8} (h:l.all eR=false) (hk:l.length≤3) (u:Nat):parseUintB 16 l≠ .ok u:=by
 unfold parseUintB
 split
 ·simp
 ·exact mz l 0 h hk u
end
section
open Go.Lib
theorem gM:∀ (b:Bool) (l:List UInt8),cq false (l.drop (cq b l))=0
 |_,[]=>by simp [cq]
 |false,c::r=>by
  have h1:=gM false r
  have h2:=gM true r
  simp only [cq]
  split
  ·simpa using h1
  ·split
   ·simpa using h2
   ·simp [cq, *]
 |true,c::r=>by
  have h1:=gM false r
  have h2:=gM true r
  simp only [cq]
  split
  ·simpa using h1
  ·simpa using h2
theorem gc (l:List UInt8):∀ ms:List (List UInt8),aH ms l<+:l
 | []=>by
  unfold aH
  split
  ·exact List.take_prefix _ _
  ·exact List.nil_prefix
 |m::r=>by
  unfold aH
  split
  ·rename_i h
   exact List.isPrefixOf_iff_prefix.1 h
  ·exact gc l r
theorem kN (l y:List UInt8) (hy:∀ c t,y=c::t→lG c=true):∀ ms:List (List UInt8),(∀ q∈ms,∀ c∈q,lG c=false)→aH ms l≠ []→aH ms (aH ms l++y)=aH ms l
 | [],_,h=>by
  cases l with
  |nil=>simp [aH] at h
  |cons c t=>
   have e:aH [] (c::t)= [c]:=by
    unfold aH at h ⊢
    by_cases hk:0≤indexByte cK ((c::t).headD 0)
    ·rw [if_pos hk];rfl
    ·rw [if_neg hk] at h;exact absurd rfl h
   rw [e]
   unfold aH at e ⊢
   by_cases hk:0≤indexByte cK ((c::t).headD 0)
   ·rw [if_pos (by simpa using hk)];rfl
   ·rw [if_neg hk] at e;cases e
 |m::r,hq,h=>by
  have hr:=gc l r
  by_cases hp:hasPrefix l m=true
  ·have e:aH (m::r) l=m:=by rw [aH,if_pos hp]
   rw [e,aH,if_pos (show hasPrefix (m++y) m=true from List.isPrefixOf_iff_prefix.2 (List.prefix_append _ _))]
  ·have e:aH (m::r) l=aH r l:=by rw [aH,if_neg hp]
   rw [e] at h ⊢
   have ih:=kN l y hy r (fun q hm=>hq q (HI _ hm)) h
   rw [aH,if_neg,ih]
   intro hm
   have hm':m<+:aH r l++y:=List.isPrefixOf_iff_prefix.1 hm
   by_cases hlen:m.length≤(aH r l).length
   ·exact hp (List.isPrefixOf_iff_prefix.2 ((List.prefix_of_prefix_length_le hm' (List.prefix_append _ _) hlen).trans hr))
   ·obtain ⟨u,hu⟩:=List.prefix_of_prefix_length_le (List.prefix_append (aH r l) y) hm' (by omega)
    have hu2:u<+:y:=by
     rw [←hu] at hm'
     exact (List.prefix_append_right_inj _).1 hm'
    cases u with
    |nil=>rw [H2] at hu;rw [hu] at hlen;omega
    |cons c t=>
     cases y with
     |nil=>simp at hu2
     |cons c' t'=>
      have hc:c=c':=by have:=hu2;rw [List.cons_prefix_cons] at this;exact this.1
      have:=hq m HE c (by rw [←hu];simp)
      rw [hc,hy c' t' rfl] at this
      cases this
theorem dd (l:List UInt8):l.take (aT l)=l.takeWhile fun c=>aM c.toNat:=by
 have:=List.takeWhile_prefix (fun c:UInt8=>aM c.toNat) (l:=l)
 exact (List.prefix_iff_eq_take.1 this).symm
theorem mA {c:UInt8} (h:lG c=true):aM (c.toNat:Nat)=false:=by
 rw [my] at h
 cases hw:aM (c.toNat:Nat) with
 |false=>rfl
 |true=>
  unfold aM ch fm at hw
  simp only [HQ,decide_eq_true_eq] at hw
  omega
theorem ud {l:List UInt8} {x:Nat×List UInt8×Nat×Nat} (h:eT l=.ok x) (hg:cq false l=0) (c0:UInt8) (t0:List UInt8) (hc:lG c0=true):
  eT (x.2.1++c0::t0)=.ok x∧cq false (x.2.1++c0::t0)=0∧x.2.1<+:l∧x.2.1≠ []:=by
 have hy:∀ c t,c0::t0=c::t→lG c=true:=fun c t e=>by injection e with e1 _;rw [←e1];exact hc
 have hnw:=mA hc
 have hpre:x.2.1<+:l∧x.2.1≠ []:=by
  unfold eT at h
  simp only at h
  split at h
  ·split at h
   ·cases h
   ·rename_i hm
    injection h with h
    rw [←h]
    exact ⟨gc l ax,hm⟩
  ·rename_i hw
   split at h
   ·split at h
    ·cases h
    ·injection h with h
     rw [←h]
     exact ⟨List.take_prefix _ _,hw⟩
   ·split at h
    ·cases h
    ·injection h with h
     rw [←h]
     exact ⟨List.take_prefix _ _,hw⟩
 refine ⟨?_,?_,hpre⟩
 ·unfold eT at h
  simp only at h
  split at h
  ·rename_i hw
   split at h
   ·cases h
   ·rename_i hm
    injection h with h
    have hx:x.2.1=aD l:=by rw [←h]
    have hz:aT (x.2.1++c0::t0)=0:=by
     obtain ⟨u,hu⟩:=hpre.1
     rw [dd] at hw
     match hxx:x.2.1,hpre.2 with
     |a::b,_=>
      rw [hxx] at hu
      rw [←hu] at hw
      unfold aT
      simp only [H6,List.takeWhile_cons] at hw ⊢
      split at hw
      ·cases hw
      ·rename_i h2;rw [if_neg h2];rfl
    have ha:=kN l (c0::t0) hy ax (by decide) hm
    unfold eT
    simp only [hz,List.take_zero,if_true]
    rw [hx]
    show (if aD (aD l++c0::t0)= [] then _ else _)=_
    rw [show aD (aD l++c0::t0)=aD l from ha,if_neg hm,h]
  ·rename_i hw
   have hx:x.2.1=l.take (aT l):=by
    split at h
    ·split at h
     ·cases h
     ·injection h with h;rw [←h]
    ·split at h
     ·cases h
     ·injection h with h;rw [←h]
   have ht:(x.2.1++c0::t0).take (aT (x.2.1++c0::t0))=l.take (aT l):=by
    rw [dd,hx,dd,List.takeWhile_append_of_pos (fun c hc=>(Hx.1 List.all_takeWhile) c hc),List.takeWhile_cons,if_neg (by rw [hnw];decide),H2]
   unfold eT
   simp only [ht]
   rw [if_neg hw]
   exact h
 ·obtain ⟨u,hu⟩:=hpre.1
  match hxx:x.2.1,hpre.2 with
  |a::b,_=>
   rw [hxx] at hu
   rw [←hu] at hg
   simp only [H6,cq] at hg ⊢
   split at hg
   ·omega
   ·rename_i hws
    split at hg
    ·omega
    ·rename_i hcm
     rw [if_neg hws,if_neg]
     rintro ⟨h1,h2⟩
     apply hcm
     refine ⟨h1,?_⟩
     cases b with
     |nil=>
      simp at h2
      rw [h2] at hc
      exact absurd hc (by decide)
     |cons b1 b2=>simpa using h2
def rx:Nat→List UInt8
 |0=> [32]
 |1=> [10]
 |2=> [9,47,47,32,99,10]
 |_=> [32,47,47,32,10,10]
theorem wY (i:Nat):∃ c t,rx i=c::t∧lG c=true:=by
 match i with
 |0=>exact ⟨_,_,rfl,rfl⟩
 |1=>exact ⟨_,_,rfl,rfl⟩
 |2=>exact ⟨_,_,rfl,rfl⟩
 |i+3=>exact ⟨_,_,rfl,rfl⟩
theorem zw (i:Nat):(rx i).length≤6:=by
 match i with
 |0=>decide
 |1=>decide
 |2=>decide
 |i+3=>exact Hh _
end
section
open Go.Lib
theorem mC (i:Nat) (L:List UInt8):∀ (fu k:Nat) (l:List UInt8) (r:List Tk),l.length<fu→L.drop k=l→k+l.length=L.length→fH fu k l=.ok r→
  r≠ []∧(∀ j (h:j<r.length),(j+1=r.length→r[j].kind=0)∧r[j].pl≤L.length∧r[j].s<+:L.drop r[j].pl)∧r.length≤l.length+1∧(join (r.map (·.s)) (rx i)).length+6≤l.length+6*r.length∧r.length≤(join (r.map (·.s)) (rx i)).length+1
 |0,_,l,_,hf,_,_,_=>absurd hf (by omega)
 |fu+1,k,l,r,hf,hd,hk,h=>by
  have hgl:=jY false l
  rw [fH] at h
  split at h
  ·injection h with h
   subst h
   refine ⟨by simp,fun j hj=> ?_,by simp,by simp [join],by simp⟩
   obtain rfl:j=0:=by simp at hj;omega
   refine ⟨fun _=>rfl,?_,List.nil_prefix⟩
   show k+cq false l≤L.length
   omega
  ·rename_i hne
   split at h
   ·cases h
   ·rename_i x hx
    split at h
    ·cases h
    ·rename_i r2 hr
     injection h with h
     subst h
     obtain ⟨_,_,hpre,hxne⟩:=ud hx (gM false l) 32 [] rfl
     have hx1:0<x.2.1.length:=H3.2 hxne
     have hx2:=hpre.length_le
     rw [H1] at hx2
     obtain ⟨h1,h2,h3,h4,h5⟩:=mC i L fu (k+cq false l+x.2.1.length) _ r2 (by simp only [H1];omega) (by rw [←hd,List.drop_drop,List.drop_drop];congr 1;omega) (by simp only [H1];omega) hr
     simp only [H1] at h3 h4
     have hs:=zw i
     have hs1:1≤(rx i).length:=by obtain ⟨c,t,e,_⟩:=wY i;rw [e];simp
     have hj:(join (((⟨x.1,x.2.1,x.2.2.1,x.2.2.2,k+cq false l⟩:Tk)::r2).map (·.s)) (rx i)).length=x.2.1.length+(rx i).length+(join (r2.map (·.s)) (rx i)).length:=by
      match r2,h1 with
      |a::b,_=>simp [join];omega
     refine ⟨by simp,fun j hj'=> ?_,by simp only [Hp];omega,by rw [hj];simp only [Hp];omega,by rw [hj];simp only [Hp];omega⟩
     cases j with
     |zero=>
      refine ⟨fun e=> ?_,?_,?_⟩
      ·have:r2.length=0:=by simpa using e.symm
       exact absurd (List.length_eq_zero_iff.1 this) h1
      ·show k+cq false l≤L.length
       omega
      ·show x.2.1<+:L.drop (k+cq false l)
       rw [←List.drop_drop,hd]
       exact hpre
     |succ j=>
      obtain ⟨a1,a2⟩:=h2 j (by simpa using hj')
      exact ⟨fun e=>a1 (by simpa using e),a2⟩
end
section
theorem aa {p:Prop} (h:p):Hid p:=h
abbrev CR (α:Type):=World→Nat→List Value→α→Prop
structure gH {α:Type} (R:CR α):Prop where
 keep:∀ {w w':World} {B:Nat} {cs:List Value} {x:α},R w B cs x→(∀ p:Addr,p.block<B→w'.cell? p=w.cell? p)→R w' B cs x
 more:∀ {w:World} {B B':Nat} {cs:List Value} {x:α},R w B cs x→B≤B'→R w B' cs x
def bd:CR Int:=fun _ _ cs x=>cs= [.int .i64 x]
def bZ:CR ByteArray:=fun _ _ cs s=>cs= [.string s]∧s.size≤maxLen
def DR:CR ((Int×Int)×(Int×Int)):=fun _ _ cs x=>cs= [.int .i64 x.1.1,.int .i64 x.1.2,.int .i64 x.2.1,.int .i64 x.2.2]
theorem ai:gH bd:=⟨fun h _=>h,fun h _=>h⟩
theorem av:gH bZ:=⟨fun h _=>h,fun h _=>h⟩
theorem ry:gH DR:=⟨fun h _=>h,fun h _=>h⟩
section
variable {α:Type} {R:CR α} {k:Nat} {w w':World} {B B':Nat} {A:Option Addr} {xs:List α}
def Sl (k:Nat) (R:CR α) (w:World) (B:Nat) (A:Option Addr) (xs:List α):Prop:=
 xs.length≤maxLen∧∀ i x,xs[i]? =some x→∃ b o ecs,A=some ⟨b,o,none⟩∧b<B∧ecs.length=k∧(∀ j u,ecs[j]? =some u→w.cell? ⟨b,o+i*k+j,none⟩=some u)∧R w B ecs x
def oD (k:Nat) (R:CR α):CR (List α):=fun w B cs xs=>∃ A cap,cs= [.slice A xs.length cap]∧Sl k R w B A xs
theorem Sl.keep (hs:gH R) (h:Sl k R w B A xs) (hk:∀ p:Addr,p.block<B→w'.cell? p=w.cell? p):Sl k R w' B A xs:=
 ⟨h.1,fun i x hx=>by
  obtain ⟨b,o,ecs,hA,hb,hl,hc,hr⟩:=h.2 i x hx
  exact ⟨b,o,ecs,hA,hb,hl,fun j u hu=>(hk _ hb).trans (hc j u hu),hs.keep hr hk⟩⟩
theorem Sl.more (hs:gH R) (h:Sl k R w B A xs) (hB:B≤B'):Sl k R w B' A xs:=
 ⟨h.1,fun i x hx=>by
  obtain ⟨b,o,ecs,hA,hb,hl,hc,hr⟩:=h.2 i x hx
  exact ⟨b,o,ecs,hA,by omega,hl,hc,hs.more hr hB⟩⟩
theorem eE (hs:gH R):gH (oD k R):=
 ⟨fun ⟨A,cap,hc,h⟩ hk=>⟨A,cap,hc,h.keep hs hk⟩,fun ⟨A,cap,hc,h⟩ hB=>⟨A,cap,hc,h.more hs hB⟩⟩
theorem Sl.below (hs:gH R) (h:Sl k R w B A xs) (hb:Below B w w'):Sl k R w' B A xs:=h.keep hs fun _ hp=>hb.cell hp
theorem Sl.alloc (hs:gH R) (h:Sl k R w B A xs) (hB:B≤w.heap.size) (o:Obj):Sl k R (w.alloc o) B A xs:=h.keep hs fun p hp=>World.cell?_alloc_lt w o p (by omega)
theorem Sl.nil_:Sl k R w B A ([]:List α):=⟨by simp,fun i x hx=>by simp at hx⟩
theorem Sl.len (h:Sl k R w B A xs):xs.length≤9223372036854775807:=h.1
theorem Sl.at1 (h:Sl 1 R w B A xs) {i:Nat} (hi:i<xs.length):∃ b o u,A=some ⟨b,o,none⟩∧b<B∧w.cell? ⟨b,o+i,none⟩=some u∧R w B [u] xs[i]:=by
 obtain ⟨b,o,ecs,hA,hb,hl,hc,hr⟩:=h.2 i xs[i] (Hn hi)
 match ecs,hl with
 | [u],_=>
  have:=hc 0 u rfl
  exact ⟨b,o,u,hA,hb,by simpa using this,hr⟩
theorem Sl.int {xs:List Int} (h:Sl 1 bd w B A xs) {i:Nat} (hi:i<xs.length):∃ b o,A=some ⟨b,o,none⟩∧b<B∧w.cell? ⟨b,o+i,none⟩=some (.int .i64 xs[i]):=by
 obtain ⟨b,o,u,hA,hb,hc,hr⟩:=h.at1 hi
 cases hr
 exact ⟨b,o,hA,hb,hc⟩
theorem Sl.str {xs:List ByteArray} (h:Sl 1 bZ w B A xs) {i:Nat} (hi:i<xs.length):∃ b o,A=some ⟨b,o,none⟩∧b<B∧w.cell? ⟨b,o+i,none⟩=some (.string xs[i])∧xs[i].size≤maxLen:=by
 obtain ⟨b,o,u,hA,hb,hc,hr,hz⟩:=h.at1 hi
 cases hr
 exact ⟨b,o,hA,hb,hc,hz⟩
theorem Sl.ints {xs:List (List Int)} (h:Sl 1 (oD 1 bd) w B A xs) {i:Nat} (hi:i<xs.length):∃ b o A' cap',A=some ⟨b,o,none⟩∧b<B∧w.cell? ⟨b,o+i,none⟩=some (.slice A' xs[i].length cap')∧Sl 1 bd w B A' xs[i]:=by
 obtain ⟨b,o,u,hA,hb,hc,A',cap',hr,hs⟩:=h.at1 hi
 cases hr
 exact ⟨b,o,A',cap',hA,hb,hc,hs⟩
end
theorem Sl.new1 {α:Type} {R:CR α} {w:World} (xs:List α) (f:α→Value) (t:TypeId) (hl:xs.length≤maxLen) (hr:∀ x∈xs,R (w.alloc (.cells (xs.map f).toArray t)) (w.heap.size+1) [f x] x):
  Sl 1 R (w.alloc (.cells (xs.map f).toArray t)) (w.heap.size+1) (some ⟨w.heap.size,0,none⟩) xs:=by
 refine ⟨hl,fun i x hx=>⟨w.heap.size,0,[f x],rfl,by omega,rfl,fun j u hu=> ?_,hr x (List.mem_of_getElem? hx)⟩⟩
 cases j with
 |zero=>
  simp at hu;subst hu
  rw [World.cell?_alloc_at _ _ _ _ rfl]
  simp [hx]
 |succ j=>simp at hu
theorem cw {α:Type} {p:α→Bool} {xs:List α} {k:Nat} (hlt:k<xs.length) (hc:(xs.take k).any p=false) (he:p xs[k]=false):(xs.take (k+1)).any p=false:=by
 rw [HR hlt,List.any_append,hc];simp [he]
theorem gN {α:Type} {p:α→Bool} {xs:List α} {k:Nat} (hlt:k<xs.length) (he:p xs[k]=true):xs.any p=true:=
 List.any_eq_true.2 ⟨xs[k],Ho _,he⟩
theorem dp {α:Type} {p:α→Bool} {xs:List α} {k:Nat} (hk:k≤xs.length) (hn:¬k<xs.length) (hc:(xs.take k).any p=false):xs.any p=false:=by
 rwa [Ia (by omega)] at hc
theorem jh {a b:Bool} (h:a=true↔b=true):Ending.returned (.bool a)=.returned (.bool b):=by rw [Hr.2 h]
theorem ad {a b:Bool} (h:a=b):Ending.returned (.bool a)=.returned (.bool b):=by rw [h]
theorem aq {k:IntKind} {a b:Int} (h:a=b):Ending.returned (.int k a)=.returned (.int k b):=by rw [h]
theorem au {B:Nat} {a w:World} (h:Below B a w) (n:Nat):Below B a (w.drewN n):=⟨h.os,h.tape,h.output,h.size,h.block⟩
theorem de {P:Program} {f:FuncId} {args:Array Value} {w:World} {n:Nat} {v:Value}
  (h:Calls P f args (w.drewN n) fun e w'=>e=.returned v∧w.drewN n=w'):Calls P f args (w.drewN n) fun e w''=>e=.returned v∧∃ m,w''=w.drewN m:=
 h.mono fun _ _ ⟨he,hm⟩=>⟨he,n,hm.symm⟩
theorem gO {P:Program} {f:FuncId} {args:Array Value} {w:World} {a n:Nat} {v:Value}
  (h:Calls P f args (w.drewN (a+n)) fun e w'=>e=.returned v∧w.drewN (a+n)=w'):
  Calls P f args (w.drewN (a+n)) fun e w''=>e=.returned v∧∃ m,w''=w.drewN (a+m):=
 h.mono fun _ _ ⟨he,hm⟩=>⟨he,n,hm.symm⟩
theorem Sl.drewN {α:Type} {R:CR α} {k:Nat} {w:World} {B:Nat} {A:Option Addr} {xs:List α} (hs:gH R) (h:Sl k R w B A xs) (n:Nat):Sl k R (w.drewN n) B A xs:=h.keep hs fun _ _=>rfl
theorem vA (a b:ByteArray):(a.toList==b.toList)=decide (a=b):=by
 rw [ByteArray.toList_eq,ByteArray.toList_eq,Hr]
 simp only [beq_iff_eq,decide_eq_true_eq]
 exact ⟨fun h=>Go.WideShapes.bytes_inj h,fun h=>by rw [h]⟩
theorem j0 {a b:ByteArray} (h:a=b):(a.toList==b.toList)=true:=by rw [vA];simpa using h
theorem mD {a b:ByteArray} (h:¬a=b):(a.toList==b.toList)=false:=by rw [vA];simpa using h
theorem cM {α:Type} {xs:List α} {n:α} {k:Nat} (hlt:k<xs.length) (hc:n∉xs.take k) (he:¬xs[k]=n):n∉xs.take (k+1):=by
 rw [HR hlt]
 intro h
 rcases H0.1 h with h|h
 ·exact hc h
 ·rw [List.mem_singleton] at h
  exact he h.symm
theorem dB {α:Type} {xs:List α} {n:α} {k:Nat} (hk:k≤xs.length) (hn:¬k<xs.length) (hc:n∉xs.take k):n∉xs:=by
 rwa [Ia (by omega)] at hc
def CA {α:Type} [DecidableEq α]:List α→α→Nat
 | [],_=>0
 |x::l,a=>if x=a then 0 else CA l a+1
def aU {α:Type} [DecidableEq α] (l:List α) (a:α):Int:=if a∈l then (CA l a:Nat) else-1
theorem zx {α:Type} [DecidableEq α] (a:α):∀ (l:List α) (k:Nat) (hk:k<l.length),a∉l.take k→l[k]=a→CA l a=k
 | [],k,hk,_,_=>absurd hk (by simp)
 |x::l,0,_,_,he=>by simp at he;simp [CA,he]
 |x::l,k+1,hk,hn,he=>by
  simp only [List.take_succ_cons,HD,not_or] at hn
  have h1:¬x=a:=fun e=>hn.1 e.symm
  simp only [CA,if_neg h1]
  rw [zx a l k (by simpa using hk) hn.2 (by simpa using he)]
theorem ji {α:Type} [DecidableEq α] {a:α} {l:List α} {k:Nat} (hk:k<l.length) (hn:a∉l.take k) (he:l[k]=a):aU l a=(k:Int):=by
 unfold aU
 rw [if_pos (by rw [←he];exact Ho _),zx a l k hk hn he]
theorem rz {α:Type} [DecidableEq α] {a:α} {l:List α} (h:a∉l):aU l a= -1:=by unfold aU;rw [if_neg h]
theorem zy {α:Type} [DecidableEq α] (l:List α) (k:Nat) (hk:k<l.length):CA l l[k]≤k:=by
 induction l generalizing k with
 |nil=>simp at hk
 |cons x l ih=>
  simp only [CA]
  cases k with
  |zero=>simp
  |succ k=>
   simp only [List.getElem_cons_succ]
   split
   ·omega
   ·have:=ih k (by simpa using hk);omega
theorem mE {α:Type} [DecidableEq α] {l:List α} {k:Nat} (hk:k<l.length):aU l l[k]=(k:Int)↔l[k]∉l.take k:=by
 constructor
 ·intro h hm
  obtain ⟨i,hi,he⟩:=Hw hm
  rw [HF] at hi
  rw [List.getElem_take] at he
  have h2:=zy l i (by omega)
  rw [he] at h2
  unfold aU at h
  rw [if_pos (Ho _)] at h
  omega
 ·intro h;exact ji hk h rfl
theorem rA {α:Type} [DecidableEq α] {l:List α} {k:Nat} (hk:k<l.length):aU l l[k]≤(k:Int)∧0≤aU l l[k]:=by
 unfold aU
 rw [if_pos (Ho _)]
 have:=zy l k hk
 omega
theorem zz {α:Type} [DecidableEq α] (a:α):∀ (l:List α),a∈l→CA l a<l.length
 | [],h=>by simp at h
 |x::l,h=>by
  simp only [CA]
  by_cases e:x=a
  ·rw [if_pos e];simp
  ·rw [if_neg e]
   rcases HD.1 h with h|h
   ·exact absurd h.symm e
   ·have:=zz a l h;simp;omega
theorem iF {W w1:World} (hb:Below W.heap.size W w1):(∀ b o,b<W.heap.size→w1.cell? ⟨b,o,none⟩=W.cell? ⟨b,o,none⟩)∧(∀ b o,b<W.heap.size→w1.frozen? ⟨b,o,none⟩=W.frozen? ⟨b,o,none⟩)∧W.heap.size≤w1.heap.size:=
 ⟨fun b o h=>hb.cell (p:=⟨b,o,none⟩) h,fun b o h=>hb.frozen (p:=⟨b,o,none⟩) h,hb.size⟩
theorem ac {W w1:World} (h:∃ p:Regrown,w1=Ht (redrawn W p.d) p.os):Below W.heap.size W w1:=by
 obtain ⟨p,rfl⟩:=h;exact below_regrown _ _ _
theorem vB (W:World):∀ d os b o,b<W.heap.size→(Ht (redrawn W d) os).cell? ⟨b,o,none⟩=W.cell? ⟨b,o,none⟩:=
 fun d os _ _ h=>(below_regrown W d os).cell h
theorem E8 (W:World) (d:Nat) (os:Array Obj):W.heap.size≤(Ht (redrawn W d) os).heap.size:=(below_regrown W d os).size
theorem ak (w:World) (cs:Array Value) (t:TypeId):∃ wb,w.alloc (.cells cs t)=wb∧wb.heap.size=w.heap.size+1∧Below w.heap.size w wb∧(∀ i,wb.cell? ⟨w.heap.size,i,none⟩=cs[i]?)∧(∀ i,wb.frozen? ⟨w.heap.size,i,none⟩=false):=
 ⟨_,rfl,by simp,(Hf _ _).alloc (Hh _) _,fun _=>World.cell?_alloc_at _ _ _ _ rfl,fun _=>World.frozen?_alloc_at _ _ _ _ rfl⟩
theorem bH {B:Nat} {w w':World} (h:Below B w w') (a i:Nat) (hl:a<B):w'.cell? ⟨a,i,none⟩=w.cell? ⟨a,i,none⟩:=h.cell hl
theorem Gz {B:Nat} {w w':World} (h:Below B w w') (a i:Nat) (hl:a<B):w'.frozen? ⟨a,i,none⟩=w.frozen? ⟨a,i,none⟩:=h.frozen hl
theorem bV {P:Program} {id:Nat} {Q:Exit→Act→World→Prop} {a:Act} {w:World} {l:List Oper} (K:wpQuiet P l.toArray (fun w'=>∃ p:Regrown,w'=Ht (redrawn w p.d) p.os) (fun a'=>∀ (w':World),(∃ p:Regrown,w'=Ht (redrawn w p.d) p.os)→Q .normal a' w') l a) (h1:P.follows .mixedOrders=true:=by kernel_rfl) (h2:Region.lexB .any l.toArray=true:=by kernel_rfl):(Code.region id l.toArray true).wp P Q a w:=wp_region_quiet_below h1 h2 K
theorem aE {B:Nat} {wb wr:World} (h:Below B wb wr) (hz:B≤wr.heap.size):∀ d os b o,b<B→(Ht (redrawn wr d) os).cell? ⟨b,o,none⟩=wb.cell? ⟨b,o,none⟩:=
 fun d os b o hb=>((below_regrown wr d os).cell (p:=⟨b,o,none⟩) (He hb hz)).trans (h.cell hb)
theorem ah {B:Nat} {wb wr:World} (h:Below B wb wr):(∀ b o,b<B→wr.cell? ⟨b,o,none⟩=wb.cell? ⟨b,o,none⟩)∧(∀ b o,b<B→wr.frozen? ⟨b,o,none⟩=wb.frozen? ⟨b,o,none⟩):=
 ⟨fun b o hb=>h.cell (p:=⟨b,o,none⟩) hb,fun b o hb=>h.frozen (p:=⟨b,o,none⟩) hb⟩
theorem aW {B:Nat} {wb wr:World} (h:Below B wb wr) (hz:B≤wr.heap.size) (d:Nat) (os:Array Obj):Below B wb (Ht (redrawn wr d) os):=h.trans ((below_regrown wr d os).mono hz)
theorem kO {α:Type} {f:α→List Value} {k:Nat} (hf:∀ x,(f x).length=k):∀ (xs:List α) (i j:Nat) (x:α) (u:Value),xs[i]? =some x→(f x)[j]? =some u→(xs.flatMap f)[i*k+j]? =some u
 | [],i,j,x,u,h,_=>by simp at h
 |y::xs,0,j,x,u,h,hu=>by
  simp at h;subst h
  have:j<(f y).length:=(HV.1 hu).1
  simp [H7,List.getElem?_append_left this,hu]
 |y::xs,i+1,j,x,u,h,hu=>by
  have ih:=kO hf xs i j x u (by simpa using h) hu
  have hy:=hf y
  rw [H7,List.getElem?_append_right (by rw [hy,Nat.add_mul];omega),←ih]
  congr 1
  rw [hy,Nat.add_mul];omega
theorem j4 {α:Type} {R:CR α} {k base:Nat} {e:TypeId} {w:World} {v:Value} {xs:List α} {f:α→List Value} (hf:∀ x,(f x).length=k) (hR:∀ x∈xs,R w w.heap.size (f x) x)
  (h:w.ownsRow base e k v xs.length (xs.flatMap f)):∃ A cap,v=.slice A xs.length cap∧Sl k R w w.heap.size A xs:=by
 rcases h.2 with ⟨rfl,hz⟩|⟨g,cap,cur,rfl,hb,hg,hl,hm,-⟩
 ·have hz':xs= []:=H8 hz
  subst hz'
  exact ⟨none,0,rfl,Sl.nil_⟩
 ·refine ⟨some ⟨g,0,none⟩,cap,rfl,by omega,fun i x hx=>⟨g,0,f x,rfl,(h.lt g rfl).2,hf x,fun j u hu=> ?_,hR x (List.mem_of_getElem? hx)⟩⟩
  have:=h.cells (g:=g) rfl (i*k+j) u (kO hf xs i j x u hx hu)
  have e:(⟨g,0,none⟩:Addr).add (i*k+j)=⟨g,0+i*k+j,none⟩:=by unfold Addr.add;split<;>simp_all<;>omega
  rw [←e];exact this
theorem vC {w:World}:Below w.heap.size w w:=Hf _ _
theorem wZ {w:World} {a:Nat} {v0 v1 v2 v3:Value} (h:∀ i,w.cell? ⟨a,i,none⟩=(#[v0,v1,v2,v3]:Array Value)[i]?):
  w.cell? ⟨a,0,none⟩=some v0∧w.cell? ⟨a,1,none⟩=some v1∧w.cell? ⟨a,2,none⟩=some v2∧w.cell? ⟨a,3,none⟩=some v3:=
 ⟨h 0,h 1,h 2,h 3⟩
theorem rB {w:World} {a:Nat} {v0 v1 v2 v3 v4:Value} (h:∀ i,w.cell? ⟨a,i,none⟩=(#[v0,v1,v2,v3,v4]:Array Value)[i]?):
  w.cell? ⟨a,0,none⟩=some v0∧w.cell? ⟨a,1,none⟩=some v1∧w.cell? ⟨a,2,none⟩=some v2∧w.cell? ⟨a,3,none⟩=some v3∧w.cell? ⟨a,4,none⟩=some v4:=
 ⟨h 0,h 1,h 2,h 3,h 4⟩
end
structure E2 where
 sw:List ByteArray
 ports:List (List Int)
 links:List ((Int×Int)×(Int×Int))
@[reducible] def GM (e:Int×Int):Value:=.agg #[.int .i64 e.1,.int .i64 e.2]
def zA (l:List Int) (i:Nat):Prop:=1≤l.getD i 0∧l.getD i 0≤511∧(0<i→l.getD (i-1) 0<l.getD i 0)
instance (l:List Int) (i:Nat):Decidable (zA l i):=by unfold zA;infer_instance
section
open Go.Lib
abbrev GN:Tk:=⟨0,[],0,0,0⟩
def af (l:List Tk):Tk:=l.headD GN
def ae (l:List Tk):List Tk:=if (af l).kind=0 then l else l.tail
def eV (l:List Tk):Prop:=(∃ t∈l,t.kind=0)∧∀ t∈l,t.s.length≤65536
def bA (s:List UInt8) (l:List Tk):Bool:=(af l).s==s&&((af l).kind==3 ||(af l).kind==1)
def rm (t:Tk):Bool:=t.kind==1&&bj ⟨t.s.toArray⟩
theorem eV.ne {l:List Tk} (h:eV l):l≠ []:=by
 obtain ⟨⟨t,ht,_⟩,_⟩:=h
 exact List.ne_nil_of_mem ht
theorem eV.head {l:List Tk} (h:eV l):(af l).s.length≤65536:=by
 cases l with
 |nil=>exact absurd rfl h.ne
 |cons a r=>exact h.2 a HE
theorem eV.adv {l:List Tk} (h:eV l):eV (ae l):=by
 unfold ae
 split
 ·exact h
 ·rename_i hk
  obtain ⟨⟨t,ht,h0⟩,h2⟩:=h
  cases l with
  |nil=>simp at ht
  |cons a r=>
   refine ⟨?_,fun x hx=>h2 x (HI _ hx)⟩
   rcases HD.1 ht with rfl|ht
   ·exact absurd h0 hk
   ·exact ⟨t,ht,h0⟩
theorem bw (l:List Tk):(ae l).length≤l.length:=by
 unfold ae
 split
 ·exact Hh _
 ·rw [List.length_tail];omega
theorem ik {l:List Tk} (h:eV l) (hk:(af l).kind≠0):(ae l).length+1=l.length:=by
 unfold ae
 rw [if_neg hk,List.length_tail]
 have:=H3.2 h.ne
 omega
end
end Go.Proofs.YtiebolhmdhdagaaGreatDoor

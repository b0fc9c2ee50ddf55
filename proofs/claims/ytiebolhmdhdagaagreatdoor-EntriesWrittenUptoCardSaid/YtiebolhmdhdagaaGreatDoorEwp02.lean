import Derived.Test.YtiebolhmdhdagaaGreatDoorEwp01
import Derived.Test.YtiebolhmdhdagaaGreatDoorShelf
import Derived.Laws.EntriesVeiled
import Derived.StillTailTactics
set_option linter.all false
set_option maxHeartbeats 1000000
set_option maxRecDepth 100000
open Go.Proofs.Tryz
namespace Go.Proofs.YtiebolhmdhdagaaGreatDoor
open _root_.Nat renaming lt_of_lt_of_le→He, le_refl→Hh, zero_le→Hm, zero_add→HS, add_zero→HU
open _root_.Go.RowKit.Below renaming refl→Hf
open _root_.Bool renaming true_and→Hk, and_eq_true→Hl, false_eq_true→Hy
open _root_.List renaming getElem?_eq_getElem→Hn, getElem_mem→Ho, length_append→Hu, all_eq_true→Hx, isPrefixOf→HC, mem_cons→HD, mem_cons_self→HE, mem_cons_of_mem→HI, map_cons→HL, getElem?_eq_some_iff→HV, drop_zero→HX, mem_append→H0, append_nil→H2, length_pos_iff→H3, length_singleton→Ie
open _root_.Array renaming getElem?_eq_some_iff→If
open Go.RowKit
section
open Go.Lib
abbrev T0:=Nat×List UInt8×Nat×Nat
def st (t:Tk):T0:=(t.kind,t.s,t.w,t.n)
def LX (l:List UInt8) (ts:List T0):Prop:=∀ fu k,l.length<fu→∃ r,fH fu k l=.ok r∧r.map st=ts
theorem D6:LX [] [(0,[],0,0)]:=fun fu k h=>by
 match fu,h with
 |fu+1,_=>exact ⟨[⟨0,[],0,0,k⟩],by simp [fH,cq],rfl⟩
theorem jj {c:UInt8} {l:List UInt8} {ts:List T0} (hc:lG c=true) (h:LX l ts):LX (c::l) ts:=fun fu k hf=>by
 match fu,hf with
 |fu+1,hf=>
  obtain ⟨r,h1,h2⟩:=h (fu+1) (k+1) (by simp at hf;omega)
  refine ⟨r,?_,h2⟩
  rw [←h1,fH,fH]
  have e1:cq false (c::l)=cq false l+1:=by simp [cq,hc]
  have e2:k+(cq false l+1)=k+1+cq false l:=by omega
  simp only [e1,List.drop_succ_cons,e2]
theorem ue {x l:List UInt8} {ts:List T0} {t:T0} (hx:x≠ []) (ht:t.2.1=x) (hg:cq false (x++l)=0) (ho:eT (x++l)=.ok t) (h:LX l ts):LX (x++l) (t::ts):=fun fu k hf=>by
 have hx1:=H3.2 hx
 match fu,hf with
 |fu+1,hf=>
  obtain ⟨r,h1,h2⟩:=h fu (k+x.length) (by simp at hf;omega)
  refine ⟨⟨t.1,t.2.1,t.2.2.1,t.2.2.2,k⟩::r,?_,?_⟩
  ·rw [fH]
   simp only [hg,HX,ho,ht,HU,List.drop_left,h1]
   rw [if_neg (by simp [hx])]
  ·rw [HL,h2];rfl
theorem rC {c:UInt8} {l:List UInt8} (h:aM (c.toNat:Nat)=true):cq false (c::l)=0:=by
 have h1:lG c=false:=by
  cases hw:lG c with
  |false=>rfl
  |true=>rw [mA hw] at h;cases h
 have h2:¬c=47:=by rintro rfl;revert h;decide
 simp [cq,h1,h2]
theorem oY {x l:List UInt8} {c:UInt8} (hx:x.all (fun c=>aM (c.toNat:Nat))=true) (hc:aM (c.toNat:Nat)=false):(x++c::l).take (aT (x++c::l))=x:=by
 rw [dd,List.takeWhile_append_of_pos (fun a ha=>(Hx.1 hx) a ha),List.takeWhile_cons,if_neg (by rw [hc];decide),H2]
theorem vD {x l:List UInt8} {c:UInt8} {ts:List T0} (hx:x≠ []) (hw:x.all (fun c=>aM (c.toNat:Nat))=true) (hd:eR (x.headD 0)=false) (hl:x.length≤16) (hc:aM (c.toNat:Nat)=false) (h:LX (c::l) ts):
  LX (x++c::l) ((1,x,0,0)::ts):=by
 refine ue hx rfl ?_ ?_ h
 ·match x,hx,hw with
  |a::b,_,hw=>exact rC (by simp only [List.all_cons,Hl] at hw;exact hw.1)
 ·unfold eT
  simp only [oY hw hc]
  rw [if_neg hx,if_neg (by rw [hd];decide),if_neg (by omega)]
theorem D7 {x l:List UInt8} {c:UInt8} {n:Nat} {ts:List T0} (hx:x≠ []) (hw:x.all eR=true) (hn:jZ x=.ok (0,n)) (hc:aM (c.toNat:Nat)=false) (h:LX (c::l) ts):
  LX (x++c::l) ((2,x,0,n)::ts):=by
 have hw':x.all (fun c=>aM (c.toNat:Nat))=true:=by
  rw [Hx] at hw ⊢
  intro a ha
  have:=hw a ha
  unfold eR at this
  unfold aM
  rw [this];rfl
 refine ue hx rfl ?_ ?_ h
 ·match x,hx,hw' with
  |a::b,_,hw=>exact rC (by simp only [List.all_cons,Hl] at hw;exact hw.1)
 ·unfold eT
  simp only [oY hw' hc]
  have hd:eR (x.headD 0)=true:=by
   match x,hx,hw with
   |a::b,_,hw=>simp only [List.all_cons,Hl] at hw;exact hw.1
  rw [if_neg hx,if_pos hd,hn]
theorem ug {s:ByteArray} (h:bj s=true):s.data.toList≠ []∧(s.data.toList.all fun c=>aM (c.toNat:Nat))=true∧eR (s.data.toList.headD 0)=false∧s.data.toList.length≤16:=by
 unfold bj at h
 simp only [Hl,decide_eq_true_eq,Bool.not_eq_true'] at h
 obtain ⟨⟨⟨h1,h2⟩,-⟩,h3⟩:=h
 have hz:s.data.toList.length=s.size:=rfl
 exact ⟨fun e=>by rw [e] at hz;simp at hz;omega,h3,h2,by omega⟩
end
section
open Go.Lib
theorem dq:∀ d:Fin 10,eR (UInt8.ofNat (48+d.val))=true∧(aG false).contains (UInt8.ofNat (48+d.val))=true∧D4 false (UInt8.ofNat (48+d.val))=d.val∧UInt8.ofNat (48+d.val)≠119∧UInt8.ofNat (48+d.val)≠120:=by decide
theorem mF {Q:Nat→List UInt8→Prop} (h1:∀ d:Fin 10,Q d.val [UInt8.ofNat (48+d.val)]) (h2:∀ u l (d:Fin 10),1≤u→Q u l→Q (u*10+d.val) (l++ [UInt8.ofNat (48+d.val)])) (u:Nat):Q u (decDigits u):=by
 induction u using Nat.strongRecOn with
 |_ u ih=>
  by_cases h:u<10
  ·rw [decDigits,dif_pos h];exact h1 ⟨u,h⟩
  ·rw [decDigits,dif_neg h]
   have:=h2 (u / 10) (decDigits (u / 10)) ⟨u % 10,by omega⟩ (by omega) (ih _ (by omega))
   rw [show u / 10*10+u % 10=u by omega] at this
   exact this
theorem vE (u:Nat):(decDigits u).all eR=true:=mF (Q:=fun _ l=>l.all eR=true) (fun d=>by rw [List.all_cons,(dq d).1];rfl) (fun _ _ d _ h=>by rw [List.all_append,h,List.all_cons,(dq d).1];rfl) u
theorem uh (u:Nat):decDigits u≠ []:=mF (Q:=fun _ l=>l≠ []) (fun d=>by simp) (fun _ _ d _ h=>by simp) u
theorem D8 (u:Nat):(decDigits u).all (fun c=>(aG false).contains c)=true:=mF (Q:=fun _ l=>l.all (fun c=>(aG false).contains c)=true) (fun d=>by rw [List.all_cons,(dq d).2.1];rfl) (fun _ _ d _ h=>by rw [List.all_append,h,List.all_cons,(dq d).2.1];rfl) u
theorem zB (u:Nat):∀ c∈decDigits u,c≠119∧c≠120:=mF (Q:=fun _ l=>∀ c∈l,c≠119∧c≠120) (fun d c hc=>by rw [List.mem_singleton.1 hc];exact (dq d).2.2.2) (fun _ _ d _ h c hc=>by
 rcases H0.1 hc with hc|hc
 ·exact h c hc
 ·rw [List.mem_singleton.1 hc];exact (dq d).2.2.2) u
theorem CB (u:Nat):u<bc→dA false (decDigits u)=(u,true):=mF (Q:=fun u l=>u<bc→dA false l=(u,true)) (fun d _=>by
  show oX false (0,true) _=_
  unfold oX
  rw [(dq d).2.2.1]
  have:=d.isLt
  simp only [Nat.zero_mul,HS,Hk]
  rw [Nat.mod_eq_of_lt (by unfold bc;omega),decide_eq_true (by unfold bc;omega)])
 (fun u l d hu h hlt=>by
  have h:=h (by omega)
  unfold dA at h ⊢
  rw [List.foldl_append,h]
  show oX false (u,true) _=_
  unfold oX
  rw [(dq d).2.2.1]
  simp only [dz,Hk]
  rw [Nat.mod_eq_of_lt hlt]
  simp [hlt]) u
theorem vF {c:UInt8}:∀ {l:List UInt8},(∀ x∈l,x≠c)→indexByte l c= -1
 | [],_=>rfl
 |b::l,h=>by
  have hb:(b==c)=false:=by simpa using h b HE
  have ih:=vF (c:=c) (l:=l) fun x hx=>h x (HI _ hx)
  simp [indexByte,hb,ih]
theorem CC {u:Nat} (h:u<bc):jZ (decDigits u)=.ok (0,u):=by
 have hp:hasPrefix (decDigits u) [48,120]=false:=by
  have hn:=zB u
  match decDigits u,hn with
  | [],_=>rfl
  | [a],_=>simp [hasPrefix,HC]
  |a::b::r,hn=>
   have:=(hn b (by simp)).2
   simp [hasPrefix,HC,this.symm]
 have hv:dP (decDigits u)=.ok u:=by
  unfold dP
  simp only [hp,Hy,if_false,if_neg (uh u)]
  rw [if_pos (D8 u),CB u h]
  rfl
 rw [jZ,vF (fun c hc=>(zB u c hc).1)]
 simp only [show ¬(0:Int)≤ -1 by omega,if_false,qq,hv]
 rfl
theorem j5 {u:Nat} {c:UInt8} {l:List UInt8} {ts:List T0} (h:u<bc) (hc:aM (c.toNat:Nat)=false) (hl:LX (c::l) ts):LX (decDigits u++c::l) ((2,decDigits u,0,u)::ts):=D7 (uh u) (vE u) (CC h) hc hl
def jX (l:List Nat):Nat:=l.foldl (fun a d=>a*10+d) 0
def ui (l:List Nat):Prop:=l≠ []∧(∀ d∈l,d<10)∧(l.length=1∨l.headD 0≠0)
theorem CD (l:List Nat) (d:Nat):jX (l++ [d])=jX l*10+d:=by simp [jX,List.foldl_append]
theorem vG:∀ (l:List Nat) (a:Nat),1≤a→1≤l.foldl (fun a d=>a*10+d) a
 | [],_,h=>h
 |d::l,a,h=>vG l (a*10+d) (by omega)
theorem uj:∀ (n:Nat) (l:List Nat),l.length=n→ui l→l.map (fun d=>UInt8.ofNat (48+d))=decDigits (jX l)
 |0,l,hn,h=>absurd (List.length_eq_zero_iff.1 hn) h.1
 |n+1,l,hn,⟨h0,h1,h2⟩=>by
  rcases List.eq_nil_or_concat l with rfl|⟨r,d,rfl⟩
  ·exact absurd rfl h0
  ·rw [List.concat_eq_append] at*
   have hd:d<10:=h1 d (by simp)
   by_cases hr:r= []
   ·subst hr
    rw [decDigits,dif_pos (by simpa [jX] using hd)]
    simp [jX]
   ·have hl:1≤r.length:=H3.2 hr
    have hz:(r++ [d]).headD 0=r.headD 0:=by cases r with
     |nil=>exact absurd rfl hr
     |cons a b=>rfl
    rw [hz] at h2
    have h3:r.headD 0≠0:=by
     rcases h2 with h2|h2
     ·rw [Hu,Ie] at h2;omega
     ·exact h2
    have ih:=uj n r (by simpa using hn) ⟨hr,fun x hx=>h1 x (by simp [hx]),.inr h3⟩
    have hp:1≤jX r:=by
     cases r with
     |nil=>exact absurd rfl hr
     |cons a b=>
      unfold jX
      rw [List.foldl_cons]
      exact vG b _ (by simp at h3;omega)
    rw [List.map_append,ih,CD]
    conv=>rhs;rw [decDigits,dif_neg (by omega),show (jX r*10+d) / 10=jX r by omega,show (jX r*10+d) % 10=d by omega]
    rfl
end
abbrev Lt:=Int×Int×Int
inductive Ex where
 |mk (op:Int) (lit:Lt) (head name:ByteArray) (hi lo:Int) (args:List Ex)
inductive St where
 |mk (kind:Int) (head name:ByteArray) (e:Ex) (thn els:List St)
def aI (n:Int):Prop:=0≤n∧n<18446744073709551616
def u8 (n:Int):Prop:=0≤n∧n<256
def Cq (n:Int):Prop:= -9223372036854775808≤n∧n<9223372036854775808
def mG (l:Lt):Prop:=Cq l.1∧aI l.2.1∧aI l.2.2
def FK (l:Lt):List Value:= [.int .i64 l.1,.int .u64 l.2.1,.int .u64 l.2.2]
def GA:CR Lt:=fun _ _ cs l=>cs=FK l∧mG l
theorem zC:gH GA:=⟨fun h _=>h,fun h _=>h⟩
def FL (op:Int) (lit:Lt) (head name:ByteArray) (hi lo:Int) (A:Option Addr) (n cap:Nat):List Value:=
 [.int .u8 op,.int .i64 lit.1,.int .u64 lit.2.1,.int .u64 lit.2.2,.string head,.string name,.int .i64 hi,.int .i64 lo,.slice A n cap]
inductive RE (w:World) (B:Nat):List Value→Ex→Prop
 |mk (op:Int) (lit:Lt) (head name:ByteArray) (hi lo:Int) (args:List Ex) (A:Option Addr) (cap b o:Nat) (C:Nat→List Value)
   (h0:u8 op∧mG lit∧head.size≤maxLen∧name.size≤maxLen∧Cq hi∧Cq lo) (hl:args.length≤maxLen)
   (hA:∀ i,i<args.length→A=some ⟨b,o,none⟩∧b<B∧(C i).length=9∧∀ j u,(C i)[j]? =some u→w.cell? ⟨b,o+i*9+j,none⟩=some u)
   (h:∀ i x,args[i]? =some x→RE w B (C i) x):RE w B (FL op lit head name hi lo A args.length cap) (.mk op lit head name hi lo args)
def sm:Nat:=1048576
mutual
def j6:Ex→Nat
 | .mk _ _ _ _ _ _ args=>mH args+1
def mH:List Ex→Nat
 | []=>0
 |x::l=>max (j6 x) (mH l)
end
theorem oZ {x:Ex}:∀ {l:List Ex},x∈l→j6 x≤mH l
 | [],h=>by simp at h
 |y::l,h=>by
  simp only [mH]
  rcases HD.1 h with rfl|h
  ·omega
  ·have:=oZ h;omega
def CE:CR Ex:=fun w B cs e=>RE w B cs e∧j6 e≤sm
theorem RE.keep {w w':World} {B:Nat} {cs:List Value} {x:Ex} (hk:∀ p:Addr,p.block<B→w'.cell? p=w.cell? p) (h:RE w B cs x):RE w' B cs x:=by
 induction h with
 |mk op lit head name hi lo args A cap b o C h0 hl hA _ ih=>
  exact .mk op lit head name hi lo args A cap b o C h0 hl (fun i hi=>⟨(hA i hi).1,(hA i hi).2.1,(hA i hi).2.2.1,fun j u hu=>(hk _ (hA i hi).2.1).trans ((hA i hi).2.2.2 j u hu)⟩) ih
theorem RE.more {w:World} {B B':Nat} {cs:List Value} {x:Ex} (hB:B≤B') (h:RE w B cs x):RE w B' cs x:=by
 induction h with
 |mk op lit head name hi lo args A cap b o C h0 hl hA _ ih=>
  exact .mk op lit head name hi lo args A cap b o C h0 hl (fun i hi=>⟨(hA i hi).1,He (hA i hi).2.1 hB,(hA i hi).2.2⟩) ih
theorem qr:gH CE:=⟨fun h hk=>⟨RE.keep hk h.1,h.2⟩,fun h hB=>⟨RE.more hB h.1,h.2⟩⟩
theorem RE.inv {w:World} {B:Nat} {cs:List Value} {op:Int} {lit:Lt} {head name:ByteArray} {hi lo:Int} {args:List Ex} (h:CE w B cs (.mk op lit head name hi lo args)):
  ∃ A cap,cs=FL op lit head name hi lo A args.length cap∧u8 op∧mG lit∧head.size≤maxLen∧name.size≤maxLen∧Cq hi∧Cq lo∧Sl 9 CE w B A args:=by
 obtain ⟨h,hd⟩:=h
 cases h with
 |mk _ _ _ _ _ _ _ A cap b o C h0 hl hA h=>
  refine ⟨A,cap,rfl,h0.1,h0.2.1,h0.2.2.1,h0.2.2.2.1,h0.2.2.2.2.1,h0.2.2.2.2.2,hl,fun i x hx=> ?_⟩
  have:=hA i (HV.1 hx).1
  have hdx:=oZ (List.mem_of_getElem? hx)
  simp only [j6] at hd
  exact ⟨b,o,C i,this.1,this.2.1,this.2.2.1,this.2.2.2,h i x hx,by omega⟩
theorem uk {α:Type} {p:Nat→α→Prop} (d:α) (n:Nat) (h:∀ i,i<n→∃ a,p i a):∃ C:Nat→α,∀ i,i<n→p i (C i):=
 ⟨fun i=>if hi:i<n then (h i hi).choose else d,fun i hi=>by show p i (if hi:i<n then (h i hi).choose else d);rw [dif_pos hi];exact (h i hi).choose_spec⟩
theorem Sl.rows {α:Type} {R:CR α} {k:Nat} {w:World} {B:Nat} {A:Option Addr} {xs:List α} (h:Sl k R w B A xs):
  ∃ (b o:Nat) (C:Nat→List Value),(∀ i,i<xs.length→A=some ⟨b,o,none⟩∧b<B∧(C i).length=k∧∀ j u,(C i)[j]? =some u→w.cell? ⟨b,o+i*k+j,none⟩=some u)∧∀ i x,xs[i]? =some x→R w B (C i) x:=by
 by_cases hz:0<xs.length
 ·obtain ⟨b,o,_,hA,hb,_⟩:=h.2 0 _ (Hn hz)
  obtain ⟨C,hC⟩:=uk (p:=fun i cs=>cs.length=k∧(∀ j u,cs[j]? =some u→w.cell? ⟨b,o+i*k+j,none⟩=some u)∧∀ x,xs[i]? =some x→R w B cs x) [] xs.length (fun i hi=>by
   obtain ⟨b',o',ecs,hA',hb',hl,hc,hr⟩:=h.2 i _ (Hn hi)
   rw [hA] at hA'
   injection hA' with hA'
   injection hA' with e1 e2
   subst e1 e2
   exact ⟨ecs,hl,hc,fun x hx=>by rw [Hn hi] at hx;injection hx with hx;subst hx;exact hr⟩)
  exact ⟨b,o,C,fun i hi=>⟨hA,hb,(hC i hi).1,(hC i hi).2.1⟩,fun i x hx=>(hC i (HV.1 hx).1).2.2 x hx⟩
 ·exact ⟨0,0,fun _=> [],fun i hi=>absurd hi (by omega),fun i x hx=>absurd (HV.1 hx).1 (by omega)⟩
theorem RE.intro {w:World} {B:Nat} {op:Int} {lit:Lt} {head name:ByteArray} {hi lo:Int} {args:List Ex} {A:Option Addr} {cap:Nat}
  (h0:u8 op∧mG lit∧head.size≤maxLen∧name.size≤maxLen∧Cq hi∧Cq lo) (hd:mH args<sm) (h:Sl 9 CE w B A args):CE w B (FL op lit head name hi lo A args.length cap) (.mk op lit head name hi lo args):=by
 obtain ⟨b,o,C,hA,hC⟩:=h.rows
 exact ⟨.mk op lit head name hi lo args A cap b o C h0 h.1 hA fun i x hx=>(hC i x hx).1,by simp only [j6];omega⟩
def FM (kind:Int) (head name:ByteArray) (ecs:List Value) (A:Option Addr) (n cap:Nat) (A':Option Addr) (n' cap':Nat):List Value:=
 .int .u8 kind:: .string head:: .string name::(ecs++ [.slice A n cap,.slice A' n' cap'])
inductive RS (w:World) (B:Nat):List Value→St→Prop
 |mk (kind:Int) (head name:ByteArray) (e:Ex) (thn els:List St) (ecs:List Value) (A A':Option Addr) (cap cap' b o b' o':Nat) (C C':Nat→List Value)
   (h0:u8 kind∧head.size≤sm∧name.size≤sm) (hz:thn.length≤sm∧els.length≤sm) (he:RE w B ecs e∧j6 e≤sm) (hl:thn.length≤maxLen) (hl':els.length≤maxLen)
   (hA:∀ i,i<thn.length→A=some ⟨b,o,none⟩∧b<B∧(C i).length=14∧∀ j u,(C i)[j]? =some u→w.cell? ⟨b,o+i*14+j,none⟩=some u)
   (hA':∀ i,i<els.length→A'=some ⟨b',o',none⟩∧b'<B∧(C' i).length=14∧∀ j u,(C' i)[j]? =some u→w.cell? ⟨b',o'+i*14+j,none⟩=some u)
   (h:∀ i x,thn[i]? =some x→RS w B (C i) x) (h':∀ i x,els[i]? =some x→RS w B (C' i) x):
   RS w B (FM kind head name ecs A thn.length cap A' els.length cap') (.mk kind head name e thn els)
def CF:CR St:=fun w B cs s=>RS w B cs s
theorem RS.keep {w w':World} {B:Nat} {cs:List Value} {x:St} (hk:∀ p:Addr,p.block<B→w'.cell? p=w.cell? p) (h:RS w B cs x):RS w' B cs x:=by
 induction h with
 |mk kind head name e thn els ecs A A' cap cap' b o b' o' C C' h0 hz he hl hl' hA hA' _ _ ih ih'=>
  exact .mk kind head name e thn els ecs A A' cap cap' b o b' o' C C' h0 hz ⟨he.1.keep hk,he.2⟩ hl hl' (fun i hi=>⟨(hA i hi).1,(hA i hi).2.1,(hA i hi).2.2.1,fun j u hu=>(hk _ (hA i hi).2.1).trans ((hA i hi).2.2.2 j u hu)⟩)
   (fun i hi=>⟨(hA' i hi).1,(hA' i hi).2.1,(hA' i hi).2.2.1,fun j u hu=>(hk _ (hA' i hi).2.1).trans ((hA' i hi).2.2.2 j u hu)⟩) ih ih'
theorem RS.more {w:World} {B B':Nat} {cs:List Value} {x:St} (hB:B≤B') (h:RS w B cs x):RS w B' cs x:=by
 induction h with
 |mk kind head name e thn els ecs A A' cap cap' b o b' o' C C' h0 hz he hl hl' hA hA' _ _ ih ih'=>
  exact .mk kind head name e thn els ecs A A' cap cap' b o b' o' C C' h0 hz ⟨he.1.more hB,he.2⟩ hl hl' (fun i hi=>⟨(hA i hi).1,He (hA i hi).2.1 hB,(hA i hi).2.2⟩)
   (fun i hi=>⟨(hA' i hi).1,He (hA' i hi).2.1 hB,(hA' i hi).2.2⟩) ih ih'
theorem qt:gH CF:=⟨fun h hk=>RS.keep hk h,fun h hB=>RS.more hB h⟩
theorem RS.inv {w:World} {B:Nat} {cs:List Value} {kind:Int} {head name:ByteArray} {e:Ex} {thn els:List St} (h:CF w B cs (.mk kind head name e thn els)):
  ∃ ecs A cap A' cap',cs=FM kind head name ecs A thn.length cap A' els.length cap'∧u8 kind∧head.size≤sm∧name.size≤sm∧CE w B ecs e∧Sl 14 CF w B A thn∧Sl 14 CF w B A' els:=by
 cases h with
 |mk _ _ _ _ _ _ ecs A A' cap cap' b o b' o' C C' h0 hz he hl hl' hA hA' h h'=>
  refine ⟨ecs,A,cap,A',cap',rfl,h0.1,h0.2.1,h0.2.2,he,⟨hl,fun i x hx=> ?_⟩,⟨hl',fun i x hx=> ?_⟩⟩
  ·have:=hA i (HV.1 hx).1
   exact ⟨b,o,C i,this.1,this.2.1,this.2.2.1,this.2.2.2,h i x hx⟩
  ·have:=hA' i (HV.1 hx).1
   exact ⟨b',o',C' i,this.1,this.2.1,this.2.2.1,this.2.2.2,h' i x hx⟩
theorem RS.intro {w:World} {B:Nat} {kind:Int} {head name:ByteArray} {e:Ex} {thn els:List St} {ecs:List Value} {A A':Option Addr} {cap cap':Nat}
  (h0:u8 kind∧head.size≤sm∧name.size≤sm) (hz:thn.length≤sm∧els.length≤sm) (he:CE w B ecs e) (h:Sl 14 CF w B A thn) (h':Sl 14 CF w B A' els):
  CF w B (FM kind head name ecs A thn.length cap A' els.length cap') (.mk kind head name e thn els):=by
 obtain ⟨b,o,C,hA,hC⟩:=h.rows
 obtain ⟨b',o',C',hA',hC'⟩:=h'.rows
 exact .mk kind head name e thn els ecs A A' cap cap' b o b' o' C C' h0 hz he h.1 h'.1 hA hA' hC hC'
abbrev Fd:=ByteArray×Int
def FB:CR Fd:=fun _ _ cs f=>cs= [.string f.1,.int .i64 f.2]∧f.1.size≤maxLen∧Cq f.2
theorem j7:gH FB:=⟨fun h _=>h,fun h _=>h⟩
structure Hd where
 name:ByteArray
 fields:List Fd
def GB:CR Hd:=fun w B cs h=>∃ A cap,cs= [.string h.name,.slice A h.fields.length cap]∧h.name.size≤maxLen∧Sl 2 FB w B A h.fields
theorem zD:gH GB:=⟨fun ⟨A,cap,e,hn,h⟩ hk=>⟨A,cap,e,hn,h.keep j7 hk⟩,fun ⟨A,cap,e,hn,h⟩ hB=>⟨A,cap,e,hn,h.more j7 hB⟩⟩
structure Se where
 kind:Int
 v:Lt
 m:Lt
def GC:CR Se:=fun _ _ cs s=>cs=.int .u8 s.kind::(FK s.v++FK s.m)∧u8 s.kind∧mG s.v∧mG s.m
theorem zE:gH GC:=⟨fun h _=>h,fun h _=>h⟩
structure Ca where
 dflt:Bool
 sets:List Se
 dest:ByteArray
def GD:CR Ca:=fun w B cs c=>∃ A cap,cs= [.bool c.dflt,.slice A c.sets.length cap,.string c.dest]∧c.dest.size≤maxLen∧Sl 7 GC w B A c.sets
theorem zF:gH GD:=⟨fun ⟨A,cap,e,hn,h⟩ hk=>⟨A,cap,e,hn,h.keep zE hk⟩,fun ⟨A,cap,e,hn,h⟩ hB=>⟨A,cap,e,hn,h.more zE hB⟩⟩
structure Sa where
 name:ByteArray
 takes:List ByteArray
 dest:ByteArray
 keys:List Ex
 cases_:List Ca
def GF:CR Sa:=fun w B cs s=>∃ A1 c1 A2 c2 A3 c3,cs= [.string s.name,.slice A1 s.takes.length c1,.string s.dest,.slice A2 s.keys.length c2,.slice A3 s.cases_.length c3]∧s.name.size≤maxLen∧s.dest.size≤maxLen∧
 Sl 1 bZ w B A1 s.takes∧Sl 9 CE w B A2 s.keys∧Sl 3 GD w B A3 s.cases_
theorem zG:gH GF:=⟨fun ⟨A1,c1,A2,c2,A3,c3,e,hn,hd,h1,h2,h3⟩ hk=>⟨A1,c1,A2,c2,A3,c3,e,hn,hd,h1.keep av hk,h2.keep qr hk,h3.keep zF hk⟩,
 fun ⟨A1,c1,A2,c2,A3,c3,e,hn,hd,h1,h2,h3⟩ hB=>⟨A1,c1,A2,c2,A3,c3,e,hn,hd,h1.more av hB,h2.more qr hB,h3.more zF hB⟩⟩
structure Ac where
 name:ByteArray
 params:List Fd
 body:List St
def GG:CR Ac:=fun w B cs a=>∃ A1 c1 A2 c2,cs= [.string a.name,.slice A1 a.params.length c1,.slice A2 a.body.length c2]∧a.name.size≤maxLen∧Sl 2 FB w B A1 a.params∧Sl 14 CF w B A2 a.body
theorem zH:gH GG:=⟨fun ⟨A1,c1,A2,c2,e,hn,h1,h2⟩ hk=>⟨A1,c1,A2,c2,e,hn,h1.keep j7 hk,h2.keep qt hk⟩,fun ⟨A1,c1,A2,c2,e,hn,h1,h2⟩ hB=>⟨A1,c1,A2,c2,e,hn,h1.more j7 hB,h2.more qt hB⟩⟩
structure Ky where
 e:Ex
 kind:Int
def GH:CR Ky:=fun w B cs k=>∃ ecs,cs=ecs++ [.int .u8 k.kind]∧u8 k.kind∧CE w B ecs k.e
theorem zI:gH GH:=⟨fun ⟨ecs,e,hk,h⟩ hk'=>⟨ecs,e,hk,qr.keep h hk'⟩,fun ⟨ecs,e,hk,h⟩ hB=>⟨ecs,e,hk,qr.more h hB⟩⟩
structure Ta where
 name:ByteArray
 keys:List Ky
 actions:List ByteArray
 dname:ByteArray
 dargs:List Lt
def GI:CR Ta:=fun w B cs t=>∃ A1 c1 A2 c2 A3 c3,cs= [.string t.name,.slice A1 t.keys.length c1,.slice A2 t.actions.length c2,.string t.dname,.slice A3 t.dargs.length c3]∧t.name.size≤maxLen∧t.dname.size≤maxLen∧
 Sl 10 GH w B A1 t.keys∧Sl 1 bZ w B A2 t.actions∧Sl 3 GA w B A3 t.dargs
theorem zJ:gH GI:=⟨fun ⟨A1,c1,A2,c2,A3,c3,e,hn,hd,h1,h2,h3⟩ hk=>⟨A1,c1,A2,c2,A3,c3,e,hn,hd,h1.keep zI hk,h2.keep av hk,h3.keep zC hk⟩,
 fun ⟨A1,c1,A2,c2,A3,c3,e,hn,hd,h1,h2,h3⟩ hB=>⟨A1,c1,A2,c2,A3,c3,e,hn,hd,h1.more zI hB,h2.more av hB,h3.more zC hB⟩⟩
structure Pg where
 headers:List Hd
 metas:List Fd
 states:List Sa
 actions:List Ac
 tables:List Ta
 control:List St
 emit:List ByteArray
abbrev G9 (p:Pg) (A1 A2 A3 A4 A5 A6 A7:Option Addr) (c1 c2 c3 c4 c5 c6 c7:Nat):Array Value:=#[.slice A1 p.headers.length c1,.slice A2 p.metas.length c2,.slice A3 p.states.length c3,.slice A4 p.actions.length c4,.slice A5 p.tables.length c5,.slice A6 p.control.length c6,.slice A7 p.emit.length c7]
abbrev Ha (p:Pg) (A1 A2 A3 A4 A5 A6 A7:Option Addr) (c1 c2 c3 c4 c5 c6 c7:Nat) (a:Int):Array Value:=#[.slice A1 p.headers.length c1,.slice A2 p.metas.length c2,.slice A3 p.states.length c3,.slice A4 p.actions.length c4,.slice A5 p.tables.length c5,.slice A6 p.control.length c6,.slice A7 p.emit.length c7,.int .i64 a]
abbrev Hb (op:Int) (lit:Lt) (head name:ByteArray) (hi lo:Int) (A:Option Addr) (n cap:Nat):Array Value:=#[.int .u8 op,.int .i64 lit.1,.int .u64 lit.2.1,.int .u64 lit.2.2,.string head,.string name,.int .i64 hi,.int .i64 lo,.slice A n cap]
abbrev Hc (kind:Int) (h n:ByteArray) (op:Int) (lit:Lt) (head name:ByteArray) (hi lo:Int) (A:Option Addr) (k cap:Nat) (A1:Option Addr) (k1 c1:Nat) (A2:Option Addr) (k2 c2:Nat):Array Value:=#[.int .u8 kind,.string h,.string n,.int .u8 op,.int .i64 lit.1,.int .u64 lit.2.1,.int .u64 lit.2.2,.string head,.string name,.int .i64 hi,.int .i64 lo,.slice A k cap,.slice A1 k1 c1,.slice A2 k2 c2]
structure zm (w:World) (B:Nat) (A1 A2 A3 A4 A5 A6 A7:Option Addr) (p:Pg):Prop where
 headers:Sl 2 GB w B A1 p.headers
 metas:Sl 2 FB w B A2 p.metas
 states:Sl 5 GF w B A3 p.states
 actions:Sl 3 GG w B A4 p.actions
 tables:Sl 5 GI w B A5 p.tables
 control:Sl 14 CF w B A6 p.control
 emit:Sl 1 bZ w B A7 p.emit
theorem zm.keep {w w':World} {B:Nat} {A1 A2 A3 A4 A5 A6 A7:Option Addr} {p:Pg} (h:zm w B A1 A2 A3 A4 A5 A6 A7 p) (hk:∀ p:Addr,p.block<B→w'.cell? p=w.cell? p):zm w' B A1 A2 A3 A4 A5 A6 A7 p:=
 ⟨h.1.keep zD hk,h.2.keep j7 hk,h.3.keep zG hk,h.4.keep zH hk,h.5.keep zJ hk,h.6.keep qt hk,h.7.keep av hk⟩
theorem zm.below {w w':World} {B:Nat} {A1 A2 A3 A4 A5 A6 A7:Option Addr} {p:Pg} (h:zm w B A1 A2 A3 A4 A5 A6 A7 p) (hb:Below B w w'):zm w' B A1 A2 A3 A4 A5 A6 A7 p:=h.keep fun _ hp=>hb.cell hp
def D9:ByteArray:=ByteArray.mk #[]
def rD (l:Lt):Int:=l.2.1*18446744073709551616+l.2.2
def kP (w:Int) (l:Lt):Bool:=decide (rD l<2 ^ w.toNat)
def aj (w:Int):Bool:=decide (1≤w∧w≤128)
theorem ee (c:Int) (w:World):Calls prog 81 #[.int .u8 c] w fun e w'=>e=.returned (.bool (ch c))∧w=w':=by
 go_enter func81,ntmps81
 go_wp2
 all_goals
  go_ret
  exact ⟨jh (by simp [ch];omega),rfl⟩
theorem fo (c:Int) (w:World):Calls prog 74 #[.int .u8 c] w fun e w'=>e=.returned (.bool (ch c))∧w=w':=by
 go_enter func74,ntmps74
 go_wp2
 all_goals
  go_ret
  exact ⟨jh (by simp [ch];omega),rfl⟩
theorem jk (c:Int) (w:World):Calls prog 83 #[.int .u8 c] w fun e w'=>e=.returned (.bool (fm c))∧w=w':=by
 go_enter func83,ntmps83
 go_wp2
 all_goals
  go_ret
  exact ⟨jh (by simp [fm];omega),rfl⟩
theorem mI (c:Int) (w:World):Calls prog 131 #[.int .u8 c] w fun e w'=>e=.returned (.bool (aM c))∧w=w':=by
 go_enter func131,ntmps131
 go_wp2_with (go_at_call 74;refine (fo _ _).mono ?_;rintro e w' ⟨rfl,rfl⟩)
 all_goals
  go_ret
  refine ⟨jh ?_,rfl⟩
  simp only [ch,decide_eq_true_eq,decide_eq_false_iff_not] at*
  simp [aM,ch,fm];try omega
theorem fI (s:ByteArray) (w:World) (hs:s.size≤maxLen):
  Calls prog 73 #[.string s] w fun e w'=>e=.returned (.string (s.extract 0 (fG s)))∧w=w':=by
 have hl:s.size≤9223372036854775807:=hs
 go_enter func73,ntmps73
 go_wp2
 go_loop [3] (fun i=>∃ k:Nat,k≤s.size∧i=.int .i64 k∧k≤fG s) (fun i=>s.size-(intOf i).toNat)
 case atStart=>exact ⟨0,Hm _,rfl,Hm _⟩
 case round=>
  obtain ⟨k,hk,rfl,hc⟩:=hrel
  by_cases hlt:k<s.size
  ·go_wp2_with (go_at_call 131;refine (mI _ _).mono ?_;rintro e w' ⟨rfl,rfl⟩)
   ·go_round
    case rel=>exact ⟨k+1,by omega,by go_num,oV hlt hc ‹_›⟩
    case measure=>simp [intOf];omega
   ·go_ret
    rw [oW hlt hc ‹_›]
    exact ⟨rfl,rfl⟩
  ·go_wp2_with (go_at_call 131;refine (mI _ _).mono ?_;rintro e w' ⟨rfl,rfl⟩)
   go_ret
   rw [rt hk hlt hc]
   exact ⟨rfl,rfl⟩
theorem oE (s:ByteArray) (m:Int) (w:World) (hs:s.size<4294967281) (hm:w.cell? ⟨2,0,none⟩=some (.int .i64 m)):
  Calls prog 75 #[.string s] w fun e w'=>e=.returned (.bool (wO s))∧w=w':=by
 go_enter func75,ntmps75
 by_cases h0:s.toList= []
 ·have h0':s.toList.isEmpty=true:=by simp [h0]
  go_wp2
  go_ret
  exact ⟨ad (wP h0).symm,rfl⟩
 ·have h0':s.toList.isEmpty=false:=by simp [h0]
  go_wp2_with fail
  refine (Tryz.strings_Contains _ _ m _ hs hm).mono ?_
  rintro e w' ⟨rfl,rfl⟩
  cases hb:Go.Lib.contains s.data.toList (ByteArray.mk #[32]).data.toList with
  |true=>
   go_wp2_with fail
   go_ret
   exact ⟨ad (wQ hb).symm,rfl⟩
  |false=>
   go_wp2_with fail
   refine (Tryz.strings_Contains _ _ m _ (by decide+kernel) hm).mono ?_
   rintro e w' ⟨rfl,rfl⟩
   rw [D3 s _ (by decide+kernel) h0 ‹_›]
   go_wp2_with fail
   go_ret
   exact ⟨rfl,rfl⟩
theorem mJ (s:ByteArray) (m:Int) (w:World) (hs:s.size≤maxLen) (hm:w.cell? ⟨2,0,none⟩=some (.int .i64 m)):
  Calls prog 29 #[.string s] w fun e w'=>e=.returned (.bool (bj s))∧w=w':=by
 have hn:=aa (zs s)
 go_enter func29,ntmps29
 cases ha:((s.extract 0 (fG s)).toList==s.toList) with
 |false=>
  go_wp2_with (go_at_call 73;refine (fI _ _ hs).mono ?_;rintro e w' ⟨rfl,rfl⟩)
  go_ret
  exact ⟨ad (by rw [hn.out,ha];rfl),rfl⟩
 |true=>
  by_cases h0:0<s.size
  ·have h0':s.toList.isEmpty=false:=iD h0
   by_cases h16:s.size≤16
   ·cases hd:ch (s[0].toNat:Nat) with
    |true=>
     go_wp2_with (first|(go_at_call 73;refine (fI _ _ hs).mono ?_;rintro e w' ⟨rfl,rfl⟩)|(go_at_call 74;refine (fo _ _).mono ?_;rintro e w' ⟨rfl,rfl⟩))
     go_ret
     exact ⟨ad (by rw [hn.out,mr h0,hd];simp),rfl⟩
    |false=>
     go_wp2_with (first|(go_at_call 73;refine (fI _ _ hs).mono ?_;rintro e w' ⟨rfl,rfl⟩)|(go_at_call 74;refine (fo _ _).mono ?_;rintro e w' ⟨rfl,rfl⟩)|(go_at_call 75;refine (oE _ m _ (by omega) hm).mono ?_;rintro e w' ⟨rfl,rfl⟩))
     go_ret
     exact ⟨ad (by rw [hn.out,mr h0,hd,ha,h0'];simp [h16]),rfl⟩
   ·go_wp2_with (go_at_call 73;refine (fI _ _ hs).mono ?_;rintro e w' ⟨rfl,rfl⟩)
    go_ret
    exact ⟨ad (by rw [hn.out];simp [h16]),rfl⟩
  ·have h0':s.toList.isEmpty=true:=jf h0
   go_wp2_with (go_at_call 73;refine (fI _ _ hs).mono ?_;rintro e w' ⟨rfl,rfl⟩)
   go_ret
   exact ⟨ad (by rw [hn.out,h0'];simp),rfl⟩
theorem zK (w:World) (t:TypeId):Sl 1 bZ (w.alloc (.cells (ed.map Value.string).toArray t)) (w.heap.size+1) (some ⟨w.heap.size,0,none⟩) ed:=
 Sl.new1 ed Value.string t (by decide) fun x hx=>⟨rfl,by have:=tY x hx;simp [maxLen];omega⟩
theorem o0:ed.length=32:=rfl
theorem gv (s:ByteArray) (w:World):
  Calls prog 82 #[.string s] w fun e w'=>e=.returned (.bool (wO s))∧Below w.heap.size w w':=by
 have hkb:=aa (Cz s)
 go_enter func82,ntmps82
 go_wp2
 have hb1:Below w.heap.size w (w.alloc (.cells (ed.map Value.string).toArray 9)):=(Hf _ _).alloc (Hh _) _
 have hsl:=zK w 9
 change Code.wp _ _ _ _ (w.alloc (.cells (ed.map Value.string).toArray 9))
 generalize w.alloc (.cells (ed.map Value.string).toArray 9)=w1 at hb1 hsl ⊢
 go_loop [4] (fun i=>∃ k:Nat,k≤32∧i=.int .i64 k∧s∉ed.take k) (fun i=>32-(intOf i).toNat)
 case atStart=>exact ⟨0,Hm _,rfl,by simp⟩
 case round=>
  obtain ⟨k,hk,rfl,hc⟩:=hrel
  by_cases hlt:k<32
  ·obtain ⟨b,o,hA,hb,hcell,-⟩:=hsl.str (i:=k) (by rw [o0];exact hlt)
   obtain ⟨rfl,rfl⟩:b=w.heap.size∧o=0:=by simp at hA;omega
   have hk':k<ed.length:=by rw [o0];exact hlt
   simp only [HS] at hcell
   clear hA hsl
   by_cases he:ed[k]=s
   ·have ht:=j0 he
    have hv:=aa (show s∈ed from by rw [←he];exact Ho _)
    clear he
    generalize ed[k]=kk at hcell ht
    go_wp2
    go_ret
    exact ⟨ad (by rw [hkb.out];simpa using hv.out),hb1⟩
   ·have ht:=mD he
    have hv:=aa (cM hk' hc he)
    clear he
    generalize ed[k]=kk at hcell ht
    go_wp2
    go_round
    case rel=>exact ⟨k+1,by omega,by go_num,hv.out⟩
    case measure=>simp [intOf];omega
  ·go_wp2
   go_ret
   exact ⟨ad (by rw [hkb.out];simpa using dB (xs:=ed) hk hlt hc),hb1⟩
theorem jl (s:ByteArray) (w:World):
  Calls prog 34 #[.string s] w fun e w'=>e=.returned (.bool (bj s))∧Below w.heap.size w w':=by
 go_enter func34,ntmps34
 by_cases h0:s.size<1
 rotate_right
 focus
  by_cases h16:16<s.size
  rotate_right
  focus
   have h0':0<s.size:=by omega
   have hhd:=aa (mr h0')
   cases hd:ch (s[0].toNat:Nat) with
   |false=>
    cases hkw:wO s with
    |false=>
     have hv:=aa (show bj s=s.data.toList.all (fun c=>aM c.toNat) from by rw [bj,hhd.out,hd,hkw];simp;omega)
     go_wp2_with (first|(go_at_call 81;refine (ee _ _).mono ?_;rintro e w' ⟨rfl,rfl⟩)|(go_at_call 82;refine (gv _ _).mono ?_;rintro e w1 ⟨rfl,hb1⟩))
     go_loop [3] (fun i=>∃ k:Nat,k≤s.size∧i=.int .i64 k∧k≤fG s) (fun i=>s.size-(intOf i).toNat)
     case atStart=>exact ⟨0,Hm _,rfl,Hm _⟩
     case round=>
      obtain ⟨k,hk,rfl,hc⟩:=hrel
      by_cases hlt:k<s.size
      focus
       cases hw:aM (s[k].toNat:Nat)
       focus
        have hv':=aa (show bj s=false from by
         have:=oW hlt hc hw
         rw [hv.out,Bool.eq_false_iff,Ne,←ig]
         simp [fG] at this ⊢;omega)
        have hl:fm (s[k].toNat:Nat)=false:=by simp [aM] at hw;exact hw.2
        have hdd:ch (s[k].toNat:Nat)=false:=by simp [aM] at hw;exact hw.1
        go_wp2_with (first|(go_at_call 81;refine (ee _ _).mono ?_;rintro e w' ⟨rfl,rfl⟩)|(go_at_call 83;refine (jk _ _).mono ?_;rintro e w' ⟨rfl,rfl⟩))
        go_ret
        exact ⟨ad hv'.out.symm,hb1⟩
       rotate_right
       focus
        have hv':=aa (oV hlt hc hw)
        cases hl:fm (s[k].toNat:Nat)
        have hdd:ch (s[k].toNat:Nat)=true:=by simpa [aM,hl] using hw
      rotate_right
      focus
       have hv':=aa (show bj s=true from by
        have:=rt hk hlt hc
        rw [hv.out,←ig]
        simp [fG] at this ⊢;omega)
       go_wp2
       go_ret
       exact ⟨ad hv'.out.symm,hb1⟩
      all_goals
       go_wp2_with (first|(go_at_call 81;refine (ee _ _).mono ?_;rintro e w' ⟨rfl,rfl⟩)|(go_at_call 83;refine (jk _ _).mono ?_;rintro e w' ⟨rfl,rfl⟩))
       go_round
       case rel=>exact ⟨k+1,by omega,by go_num,hv'.out⟩
       case measure=>simp [intOf];omega
    |true=>
     have hv:=aa (show bj s=false from by simp [bj,hkw])
     go_wp2_with (first|(go_at_call 81;refine (ee _ _).mono ?_;rintro e w' ⟨rfl,rfl⟩)|(go_at_call 82;refine (gv _ _).mono ?_;rintro e w1 ⟨rfl,hb1⟩))
     go_ret
     exact ⟨ad hv.out.symm,hb1⟩
   |true=>
    have hv:=aa (show bj s=false from by rw [bj,hhd.out,hd];simp)
    go_wp2_with (go_at_call 81;refine (ee _ _).mono ?_;rintro e w' ⟨rfl,rfl⟩)
    go_ret
    exact ⟨ad hv.out.symm,vC⟩
 all_goals
  have hv:=aa (show bj s=false from by simp [bj];omega)
  go_wp2
  go_ret
  exact ⟨ad hv.out.symm,vC⟩
theorem CG {s:ByteArray} (l:List UInt8):s=ByteArray.mk l.toArray↔s.toList=l:=by
 rw [ByteArray.toList_eq]
 constructor
 ·intro h;rw [h]
 ·intro h;rw [←h]
theorem lT {s:ByteArray}:s=D9↔s.toList= []:=CG _
theorem il (k:Int) (w:World) (h0:0≤k) (h1:k≤128):Calls prog 186 #[.int .i64 k] w fun e w'=>e=.returned (.int .u64 k)∧w=w':=by
 have e1:min k 128=k:=by omega
 have e2:max 0 k=k:=by omega
 go_enter func186,ntmps186
 go_wp2
 go_ret
 exact ⟨aq (by simp [e1,e2]),rfl⟩
theorem zL:∀ k:Fin 64,(18446744073709551615 / 2 ^ k.val:Int)=2 ^ (64-k.val)-1∧bits .or .u64 (18446744073709551615 / 2 ^ k.val:Int) (IntKind.u64.wrap (18446744073709551615*2 ^ (64-k.val)))=18446744073709551615:=by decide+kernel
theorem xc:∀ k:Fin 64,(18446744073709551615 / 2 ^ k.val:Int)=2 ^ (64-k.val)-1:=by decide+kernel
theorem CH (k:Nat) (w:World) (h1:k<64):Calls prog 187 #[.agg #[.int .u64 18446744073709551615,.int .u64 18446744073709551615],.int .i64 (k:Int)] w fun e w'=>e=.returned (.agg #[.int .u64 ((2:Int) ^ (64-k)-1),.int .u64 18446744073709551615])∧Below w.heap.size w w':=by
 obtain ⟨q1,q2⟩:=zL ⟨k,h1⟩
 replace q1:=aa q1
 replace q2:=aa q2
 go_enter func187,ntmps187
 go_wp2_with (go_at_call 186;refine (il _ _ (by omega) (by omega)).mono ?_;rintro e w' ⟨rfl,rfl⟩)
 refine bodyPost_ret (v:=.agg #[.int .u64 (18446744073709551615 / 2 ^ k),.int .u64 (bits .or .u64 (18446744073709551615 / 2 ^ k:Int) (IntKind.u64.wrap (18446744073709551615*2 ^ (64-k))))]) (by simp [results,results187,go_sem]) rfl ⟨?_,((Hf _ _).alloc (Hh _) _).alloc (by simp) _⟩
 rw [q2.out,q1.out]
theorem zM (k:Nat) (w:World) (h1:k<64):Calls prog 187 #[.agg #[.int .u64 18446744073709551615,.int .u64 18446744073709551615],.int .i64 ((k:Int)+64)] w fun e w'=>e=.returned (.agg #[.int .u64 0,.int .u64 ((2:Int) ^ (64-k)-1)])∧Below w.heap.size w w':=by
 have q1:=aa (xc ⟨k,h1⟩)
 go_enter func187,ntmps187
 go_wp2_with (go_at_call 186;refine (il _ _ (by omega) (by omega)).mono ?_;rintro e w' ⟨rfl,rfl⟩)
 refine bodyPost_ret (v:=.agg #[.int .u64 0,.int .u64 (18446744073709551615 / 2 ^ k)]) (by simp [results,results187,go_sem]) rfl ⟨?_,((Hf _ _).alloc (Hh _) _).alloc (by simp) _⟩
 rw [q1.out]
def aX (n:Nat):Int:=if n≤64 then 0 else 2 ^ (n-64)-1
def aP (n:Nat):Int:=if n≤64 then 2 ^ n-1 else 18446744073709551615
theorem vH (z:Int) (n:Nat) (w:World) (h1:1≤n) (h2:n≤128) (e1:min z 128=n) (e2:¬z<1):Calls prog 162 #[.int .i64 z] w fun e w'=>e=.returned (.agg #[.int .u64 (aX n),.int .u64 (aP n)])∧Below w.heap.size w w':=by
 obtain ⟨wa,hwa,hsa,hba,hca,hfa⟩:=ak w #[.int .u64 0,.int .u64 0] 61
 obtain ⟨wb,hwb,hsb,hbb,hcb,-⟩:=ak wa #[.int .u64 18446744073709551615,.int .u64 18446744073709551615] 61
 have hw:=hba.trans (hbb.mono (by omega))
 have x0:wb.cell? ⟨w.heap.size,0,none⟩=some (.int .u64 0):=(bH hbb w.heap.size 0 (by omega)).trans (hca 0)
 have x1:wb.cell? ⟨w.heap.size,1,none⟩=some (.int .u64 0):=(bH hbb w.heap.size 1 (by omega)).trans (hca 1)
 have f0:∀ i,wb.frozen? ⟨w.heap.size,i,none⟩=false:=fun i=>(Gz hbb w.heap.size i (by omega)).trans (hfa i)
 simp only [hsa] at hcb
 have y0:wb.cell? ⟨w.heap.size+1,0,none⟩=some (.int .u64 18446744073709551615):=hcb 0
 have y1:wb.cell? ⟨w.heap.size+1,1,none⟩=some (.int .u64 18446744073709551615):=hcb 1
 have hz:w.heap.size<wb.heap.size:=by omega
 replace hw:=aa hw
 replace hsb:=aa hsb
 clear hca hcb hba hbb hfa
 by_cases h:n≤64
 ·have hk:=aa (zM (64-n) wb (by omega))
  have ek:(128:Int)-(n:Int)=((64-n:Nat):Int)+64:=by omega
  have hv:=aa (show aX n=0∧aP n=2 ^ (64-(64-n))-1 from by simp only [aX,aP,if_pos h];rw [show 64-(64-n)=n by omega];simp)
  go_enter func162,ntmps162
  go_wp2_with fail
  refine hk.out.mono ?_
  rintro e w1 ⟨rfl,hb⟩
  obtain ⟨hc,hf,hz1⟩:=iF hb
  replace hb:=aa hb
  go_wp2
  refine bodyPost_ret (v:=.agg #[.int .u64 0,.int .u64 ((2:Int) ^ (64-(64-n))-1)]) (by simp [results,results162,go_sem,hc,hz,x0,x1]) rfl ⟨by rw [hv.out.1,hv.out.2],?_⟩
  exact ((hw.out.trans (hb.out.mono (by omega))).setCell (by simp) _).setCell (by simp) _
 ·have hk:=aa (CH (128-n) wb (by omega))
  have ek:(128:Int)-(n:Int)=((128-n:Nat):Int):=by omega
  have hv:=aa (show aX n=2 ^ (64-(128-n))-1∧aP n=18446744073709551615 from by simp only [aX,aP,if_neg h];rw [show 64-(128-n)=n-64 by omega];simp)
  go_enter func162,ntmps162
  go_wp2_with fail
  refine hk.out.mono ?_
  rintro e w1 ⟨rfl,hb⟩
  obtain ⟨hc,hf,hz1⟩:=iF hb
  replace hb:=aa hb
  go_wp2
  refine bodyPost_ret (v:=.agg #[.int .u64 ((2:Int) ^ (64-(128-n))-1),.int .u64 18446744073709551615]) (by simp [results,results162,go_sem,hc,hz,x0,x1]) rfl ⟨by rw [hv.out.1,hv.out.2],?_⟩
  exact ((hw.out.trans (hb.out.mono (by omega))).setCell (by simp) _).setCell (by simp) _
theorem zN (n:Nat) (w:World) (h1:1≤n) (h2:n≤128):Calls prog 162 #[.int .i64 (n:Int)] w fun e w'=>e=.returned (.agg #[.int .u64 (aX n),.int .u64 (aP n)])∧Below w.heap.size w w':=vH n n w h1 h2 (by omega) (by omega)
def aJ (a b:Int):Int:=bits .and .u64 a b
theorem rE (a b:Int) (w:World):Calls prog 164 #[.int .u64 a,.int .u64 b] w fun e w'=>e=.returned (.int .u64 (aJ a b))∧w'=w:=by
 go_enter func164,ntmps164
 go_wp2
 go_ret
 exact ⟨rfl,rfl⟩
theorem rF:∀ args w,(callFunc 164 args).run prog w=.ok (.enter 164 args) w:=enters_of func164 (by kernel_rfl) rfl
theorem zO (a b c d:Int) (w:World):Calls prog 163 #[.agg #[.int .u64 a,.int .u64 b],.agg #[.int .u64 c,.int .u64 d],.func (.func 164) #[] #[]] w fun e w'=>e=.returned (.agg #[.int .u64 (aJ a c),.int .u64 (aJ b d)])∧Below w.heap.size w w':=by
 have eg:=rF
 go_enter func163,ntmps163
 go_wp2_with fail
 refine wp_region_still_tail 13 (by kernel_rfl) (by kernel_rfl) ?_
 simp only [List.take_succ_cons,List.take_zero,List.drop_succ_cons,HX]
 change wpStill _ _ (World.drew _) _ _ _
 iterate 5 still_step
 still_call (rE _ _ _)
 iterate 5 still_step
 still_call (rE _ _ _)
 still_step
 refine wpStill_nil ?_
 change wpList _ _ _ _ _ (World.drew _)
 have hb3:Below w.heap.size w (((w.alloc (.cells #[.int .u64 a,.int .u64 b] 61)).alloc (.cells #[.int .u64 c,.int .u64 d] 61)).alloc (.cells #[.int .u64 0,.int .u64 0] 61)).drew:=((((Hf _ _).alloc (Hh _) _).alloc (by simp) _).alloc (by simp;omega) _).drew
 have n0:(((w.alloc (.cells #[.int .u64 a,.int .u64 b] 61)).alloc (.cells #[.int .u64 c,.int .u64 d] 61)).alloc (.cells #[.int .u64 0,.int .u64 0] 61)).drew.heap[w.heap.size+1+1]? =some (.cells #[.int .u64 0,.int .u64 0] 61):=by
  have:=heap_alloc_new ((w.alloc (.cells #[.int .u64 a,.int .u64 b] 61)).alloc (.cells #[.int .u64 c,.int .u64 d] 61)) (.cells #[.int .u64 0,.int .u64 0] 61)
  rw [World.size_alloc,World.size_alloc] at this
  exact this
 generalize hwd:(((w.alloc (.cells #[.int .u64 a,.int .u64 b] 61)).alloc (.cells #[.int .u64 c,.int .u64 d] 61)).alloc (.cells #[.int .u64 0,.int .u64 0] 61)).drew=wd at hb3 n0
 clear hwd
 have m0:wd.cell? ⟨w.heap.size+1+1,0,none⟩=some (.int .u64 0):=by simp [World.cell?,n0]
 have m1:wd.cell? ⟨w.heap.size+1+1,1,none⟩=some (.int .u64 0):=by simp [World.cell?,n0]
 have m2:wd.frozen? ⟨w.heap.size+1+1,0,none⟩=false:=by simp [World.frozen?,n0]
 have m3:wd.frozen? ⟨w.heap.size+1+1,1,none⟩=false:=by simp [World.frozen?,n0]
 have m4:w.heap.size+1+1<wd.heap.size:=(If.1 n0).1
 replace hb3:=aa hb3
 replace n0:=aa n0
 go_wp2
 refine bodyPost_ret (v:=.agg #[.int .u64 (aJ a c),.int .u64 (aJ b d)]) (by simp [results,results163,go_sem,m0,m1,m4]) rfl ⟨rfl,(hb3.out.setCell (by simp;omega) _).setCell (by simp;omega) _⟩
theorem lU (a b c d:Int) (w:World):Calls prog 120 #[.agg #[.int .u64 a,.int .u64 b],.agg #[.int .u64 c,.int .u64 d]] w fun e w'=>e=.returned (.agg #[.int .u64 (aJ a c),.int .u64 (aJ b d)])∧Below w.heap.size w w':=by
 obtain ⟨wa,hwa,hsa,hba,hca,-⟩:=ak w #[.int .u64 a,.int .u64 b] 61
 obtain ⟨wb,hwb,hsb,hbb,hcb,-⟩:=ak wa #[.int .u64 c,.int .u64 d] 61
 obtain ⟨wc,hwc,hsc,hbc,hcc,hfc⟩:=ak wb #[.int .u64 0,.int .u64 0] 61
 have hw:=hba.trans ((hbb.mono (by omega)).trans (hbc.mono (by omega)))
 have x0:wc.cell? ⟨w.heap.size,0,none⟩=some (.int .u64 a):=(bH hbc w.heap.size 0 (by omega)).trans ((bH hbb w.heap.size 0 (by omega)).trans (hca 0))
 have x1:wc.cell? ⟨w.heap.size,1,none⟩=some (.int .u64 b):=(bH hbc w.heap.size 1 (by omega)).trans ((bH hbb w.heap.size 1 (by omega)).trans (hca 1))
 simp only [hsa] at hcb
 have y0:wc.cell? ⟨w.heap.size+1,0,none⟩=some (.int .u64 c):=(bH hbc (w.heap.size+1) 0 (by omega)).trans (hcb 0)
 have y1:wc.cell? ⟨w.heap.size+1,1,none⟩=some (.int .u64 d):=(bH hbc (w.heap.size+1) 1 (by omega)).trans (hcb 1)
 simp only [hsb,hsa] at hcc hfc
 have z0:wc.cell? ⟨w.heap.size+1+1,0,none⟩=some (.int .u64 0):=hcc 0
 have z1:wc.cell? ⟨w.heap.size+1+1,1,none⟩=some (.int .u64 0):=hcc 1
 have hk3:w.heap.size+1+1<wc.heap.size:=by omega
 have hB:=aa (zO a b c d wc)
 replace hw:=aa hw
 replace hsc:=aa hsc
 clear hca hcb hcc hba hbb hbc
 go_enter func120,ntmps120
 go_wp2_with fail
 refine hB.out.mono ?_
 rintro e w1 ⟨rfl,hb⟩
 obtain ⟨hc,hf,hz1⟩:=iF hb
 replace hb:=aa hb
 have m0:w1.cell? ⟨w.heap.size+1+1,0,none⟩=some (.int .u64 0):=(hc _ _ hk3).trans z0
 have m1:w1.cell? ⟨w.heap.size+1+1,1,none⟩=some (.int .u64 0):=(hc _ _ hk3).trans z1
 have m2:w1.frozen? ⟨w.heap.size+1+1,0,none⟩=false:=(hf _ _ hk3).trans (hfc 0)
 have m3:w1.frozen? ⟨w.heap.size+1+1,1,none⟩=false:=(hf _ _ hk3).trans (hfc 1)
 have m4:w.heap.size+1+1<w1.heap.size:=by omega
 clear hc hf hfc
 go_wp2
 refine bodyPost_ret (v:=.agg #[.int .u64 (aJ a c),.int .u64 (aJ b d)]) (by simp [results,results120,go_sem,m0,m1,m4]) rfl ⟨rfl,((hw.out.trans (hb.out.mono (by omega))).setCell (by simp;omega) _).setCell (by simp;omega) _⟩
theorem zP (a b z mh ml:Int) (w:World) (hMk:∀ W,Calls prog 162 #[.int .i64 z] W fun e w'=>e=.returned (.agg #[.int .u64 mh,.int .u64 ml])∧Below W.heap.size W w'):Calls prog 158 #[.agg #[.int .u64 a,.int .u64 b],.int .i64 z] w fun e w'=>e=.returned (.agg #[.int .u64 (aJ a mh),.int .u64 (aJ b ml)])∧Below w.heap.size w w':=by
 obtain ⟨wa,hwa,hsa,hba,hca,-⟩:=ak w #[.int .u64 a,.int .u64 b] 61
 obtain ⟨wc,hwc,hsc,hbc,hcc,hfc⟩:=ak wa #[.int .u64 0,.int .u64 0] 61
 have hw:=hba.trans (hbc.mono (by omega))
 have x0:wc.cell? ⟨w.heap.size,0,none⟩=some (.int .u64 a):=(bH hbc w.heap.size 0 (by omega)).trans (hca 0)
 have x1:wc.cell? ⟨w.heap.size,1,none⟩=some (.int .u64 b):=(bH hbc w.heap.size 1 (by omega)).trans (hca 1)
 simp only [hsa] at hcc hfc
 have z0:wc.cell? ⟨w.heap.size+1,0,none⟩=some (.int .u64 0):=hcc 0
 have z1:wc.cell? ⟨w.heap.size+1,1,none⟩=some (.int .u64 0):=hcc 1
 have hk2:w.heap.size<wc.heap.size:=by omega
 have hk3:w.heap.size+1<wc.heap.size:=by omega
 have hM:=aa hMk
 have hA:=aa (fun W=>lU a b mh ml W)
 replace hw:=aa hw
 replace hsc:=aa hsc
 clear hca hcc hba hbc hMk
 go_enter func158,ntmps158
 go_wp2_with fail
 go_region_with (first|(go_at_call 162;refine (hM.out _).mono ?_;rintro e w1 ⟨rfl,hb⟩;have u0:w1.cell? ⟨w.heap.size,0,none⟩=some (.int .u64 a):=(hb.cell (p:=⟨w.heap.size,0,none⟩) hk2).trans x0;have u1:w1.cell? ⟨w.heap.size,1,none⟩=some (.int .u64 b):=(hb.cell (p:=⟨w.heap.size,1,none⟩) hk2).trans x1;have v0:w1.cell? ⟨w.heap.size+1,0,none⟩=some (.int .u64 0):=(hb.cell (p:=⟨w.heap.size+1,0,none⟩) hk3).trans z0;have v1:w1.cell? ⟨w.heap.size+1,1,none⟩=some (.int .u64 0):=(hb.cell (p:=⟨w.heap.size+1,1,none⟩) hk3).trans z1;have t0:w1.frozen? ⟨w.heap.size+1,0,none⟩=false:=(hb.frozen (p:=⟨w.heap.size+1,0,none⟩) hk3).trans (hfc 0);have t1:w1.frozen? ⟨w.heap.size+1,1,none⟩=false:=(hb.frozen (p:=⟨w.heap.size+1,1,none⟩) hk3).trans (hfc 1);have k1:w.heap.size+1<w1.heap.size:=He hk3 hb.size;replace hb:=aa hb)|(go_at_call 120;refine (hA.out _).mono ?_;rintro e w2 ⟨rfl,hb2⟩;have v2:w2.cell? ⟨w.heap.size+1,0,none⟩=some (.int .u64 0):=(hb2.cell (p:=⟨w.heap.size+1,0,none⟩) k1).trans v0;have v3:w2.cell? ⟨w.heap.size+1,1,none⟩=some (.int .u64 0):=(hb2.cell (p:=⟨w.heap.size+1,1,none⟩) k1).trans v1;have t2:w2.frozen? ⟨w.heap.size+1,0,none⟩=false:=(hb2.frozen (p:=⟨w.heap.size+1,0,none⟩) k1).trans t0;have t3:w2.frozen? ⟨w.heap.size+1,1,none⟩=false:=(hb2.frozen (p:=⟨w.heap.size+1,1,none⟩) k1).trans t1;have k2:w.heap.size+1<w2.heap.size:=He k1 hb2.size;replace hb2:=aa hb2))
 all_goals
  go_wp2
  refine bodyPost_ret (v:=.agg #[.int .u64 (aJ a mh),.int .u64 (aJ b ml)]) (by simp [results,results158,go_sem,v2,v3,k2]) rfl ⟨rfl,((((hw.out.drew).trans (hb.out.mono (by show w.heap.size≤wc.heap.size;omega))).trans (hb2.out.mono (by omega))).setCell (by simp) _).setCell (by simp) _⟩
theorem vI (a b:Int) (n:Nat) (w:World) (h1:1≤n) (h2:n≤128):Calls prog 158 #[.agg #[.int .u64 a,.int .u64 b],.int .i64 (n:Int)] w fun e w'=>e=.returned (.agg #[.int .u64 (aJ a (aX n)),.int .u64 (aJ b (aP n))])∧Below w.heap.size w w':=zP a b n _ _ w fun W=>zN n W h1 h2
end Go.Proofs.YtiebolhmdhdagaaGreatDoor

import Derived.Test.YtiebolhmdhdagaaGreatDoorEwp05
set_option linter.all false
namespace Go.Proofs.YtiebolhmdhdagaaGreatDoor
open _root_.Nat renaming le_refl→Hh, le_of_lt→Hs, lt_succ_self→HA, zero_add→HS, add_zero→HU
open _root_.Bool renaming and_eq_true→Hl, false_eq_true→Hy
open _root_.List renaming getElem?_eq_getElem→Hn, getElem_mem→Ho, length_cons→Hp, length_append→Hu, getElem_of_mem→Hw, all_eq_true→Hx, length_map→Hz, isPrefixOf→HC, mem_cons_self→HE, length_take→HF, mem_cons_of_mem→HI, map_cons→HL, mem_map→HN, append_assoc→HP, take_succ_eq_append_getElem→HR, getD_eq_getElem?_getD→HT, getElem?_eq_some_iff→HV, drop_zero→HX, length_nil→HY, append_nil→H2, drop_eq_getElem_cons→H4, nil_append→H5, cons_append→H6, flatMap_cons→H7, take_of_length_le→Ia, length_singleton→Ie
open _root_.Option renaming bind_some→Hq
open _root_.Int renaming toNat_natCast→HG
open Go.RowKit
section
open Go.Lib
def GP:eF:=⟨[],[],[],⟨0,[]⟩⟩
def gB (p:Lp) (e:aR):eF:=(eG p.tabs e.tab).getD GP
def dG (l:List ByteArray) (i:Int):List UInt8:=(l.getD i.toNat ByteArray.empty).data.toList
def gT (k:Int) (x:Pt) (len:Int):List UInt8:=
 if k=1 then decDigits (nv x.vh x.vl) else if k=2 then decDigits (nv x.vh x.vl)++47::itoa len else decDigits (nv x.vh x.vl)++(32::38::38::38::32::decDigits (nv x.mh x.ml))
def bK (x:Int×Int):List UInt8:=decDigits (nv x.1 x.2)
def bY (t:eF) (e:aR):List (List UInt8):=e.pats.mapIdx fun i x=>gT (cB t i) x e.len
def bR:List UInt8:= [44,32]
def dT:List UInt8:= [32,112,114,105,111,32]
def fw:List UInt8:= [112,114,105,111]
def km:List UInt8:= [32,45,62,32]
def uu:List UInt8:= [45,62]
def cH:List UInt8:= [38,38,38]
def jv:List UInt8:= [41,59,10]
def bm (p:Lp) (name:ByteArray) (e:aR):List UInt8:=
 name.data.toList++46::(dG p.nt e.tab++58::32::(join (bY (gB p e) e) bR++(dT++(itoa e.prio++(km++(dG p.na e.run.act++40::(join (e.run.args.map bK) bR++jv)))))))
def fe (f:List aR→Bool) (sw:List ByteArray) (l:List (List aR)) (i:Nat):Bool:=aK bj sw i&&(!aK (fun s=>decide (s∈sw.take i)) sw i&&aK f l i)
def cR (f:List aR→Bool) (p:Lp) (sw:List ByteArray) (l:List (List aR)):List UInt8:=
 if l.length≠sw.length then [] else if am (fe f sw l) sw.length then (sw.zip l).flatMap (fun x=>x.2.flatMap (bm p x.1)) else []
abbrev fj (s:List UInt8):T0:=(3,s,0,0)
abbrev tX (s:List UInt8):T0:=(1,s,0,0)
abbrev lJ (n:Nat):T0:=(2,decDigits n,0,n)
def jw (k:Int) (x:Pt) (len:Int):List T0:=
 if k=1 then [lJ (nv x.vh x.vl)] else if k=2 then [lJ (nv x.vh x.vl),fj [47],lJ len.toNat] else [lJ (nv x.vh x.vl),fj cH,lJ (nv x.mh x.ml)]
def fx (x:Int×Int):List T0:= [lJ (nv x.1 x.2)]
def dU:List (List T0)→List T0
 | []=> []
 | [x]=>x
 |x::y::r=>x++fj [44]::dU (y::r)
def kp (t:eF) (e:aR):List (List T0):=e.pats.mapIdx fun i x=>jw (cB t i) x e.len
def dH (p:Lp) (name:ByteArray) (e:aR):List T0:=
 tX name.data.toList::fj [46]::tX (dG p.nt e.tab)::fj [58]::(dU (kp (gB p e) e)++tX fw::lJ e.prio.toNat::fj uu::tX (dG p.na e.run.act)::fj [40]::(dU (e.run.args.map fx)++ [fj [41],fj [59]]))
theorem qJ {x l:List UInt8} {ts:List T0} (h0:x≠ []) (h1:aT (x++l)=0) (h2:cq false (x++l)=0) (h3:aD (x++l)=x) (h:LX l ts):LX (x++l) (fj x::ts):=by
 have h4:eT (x++l)=.ok (3,x,0,0):=by
  unfold eT
  simp only [h1,List.take_zero,if_true,h3]
  rw [if_neg h0]
 exact ue h0 rfl h2 h4 h
theorem px {c:UInt8} {l:List UInt8} {ts:List T0} (hc:c=46∨c=44∨c=40∨c=41∨c=58∨c=59) (h:LX l ts):LX (c::l) (fj [c]::ts):=by
 have h2:cq false ([c]++l)=0:=by rcases hc with rfl|rfl|rfl|rfl|rfl|rfl<;>simp [cq,lG]
 have hcw:aM (c.toNat:Nat)=false:=by rcases hc with rfl|rfl|rfl|rfl|rfl|rfl<;>decide
 have hz:aT ([c]++l)=0:=by simp [aT,List.takeWhile_cons,hcw]
 have hm:aD ([c]++l)= [c]:=by rcases hc with rfl|rfl|rfl|rfl|rfl|rfl<;>simp [aD,aH,ax,hasPrefix,HC,cK,indexByte]
 exact qJ (by simp) hz h2 hm h
theorem Ak {d:UInt8} {l:List UInt8} {ts:List T0} (hd:d≠47) (h:LX (d::l) ts):LX (47::d::l) (fj [47]::ts):=by
 have hz:aT ([47]++d::l)=0:=by simp [aT,show aM 47=false by decide]
 exact qJ (x:= [47]) (by simp) hz (by simp [cq,lG,hd]) (by simp [aD,aH,ax,hasPrefix,HC,cK,indexByte]) h
theorem Fc {l:List UInt8} {ts:List T0} (h:LX l ts):LX (uu++l) (fj uu::ts):=by
 have hz:aT (uu++l)=0:=by simp [uu,aT,show aM 45=false by decide]
 exact qJ (by decide) hz (by simp [uu,cq,lG]) (by simp [uu,aD,aH,ax,hasPrefix,HC]) h
theorem CS {l:List UInt8} {ts:List T0} (h:LX l ts):LX (cH++l) (fj cH::ts):=by
 have hz:aT (cH++l)=0:=by simp [cH,aT,show aM 38=false by decide]
 exact qJ (by decide) hz (by simp [cH,cq,lG]) (by simp [cH,aD,aH,ax,hasPrefix,HC]) h
def Pc (x:List UInt8) (tx:List T0):Prop:=∀ c l ts,aM ((c:UInt8).toNat:Nat)=false→LX (c::l) ts→LX (x++c::l) (tx++ts)
theorem Al {u:Nat} (h:u<bc):Pc (decDigits u) [lJ u]:=fun _ _ _ hc hl=>j5 h hc hl
theorem Am (u:Nat):∃ d r,decDigits u=d::r∧d≠47:=by
 have h1:=uh u
 have h2:=vE u
 match decDigits u,h1,h2 with
 |d::r,_,h2=>
  refine ⟨d,r,rfl,?_⟩
  rintro rfl
  rw [List.all_cons,Hl] at h2
  exact absurd h2.1 (by decide)
theorem Ao {u v:Nat} (h:u<bc) (hv:v<bc):Pc (decDigits u++47::decDigits v) [lJ u,fj [47],lJ v]:=fun c l ts hc hl=>by
 have h1:=j5 hv hc hl
 obtain ⟨d,r,e,hd⟩:=Am v
 have h2:LX (47::(decDigits v++c::l)) (fj [47]::lJ v::ts):=by
  generalize hq:lJ v::ts=tt at h1 ⊢
  rw [e,H6] at h1 ⊢
  exact Ak hd h1
 have h3:=j5 (c:=47) h (by decide) h2
 simpa using h3
theorem Em {u v:Nat} (h:u<bc) (hv:v<bc):Pc (decDigits u++(32::38::38::38::32::decDigits v)) [lJ u,fj cH,lJ v]:=fun c l ts hc hl=>by
 have h1:=CS (jj (c:=32) rfl (j5 hv hc hl))
 have h3:=j5 (c:=32) h (by decide) (jj (c:=32) rfl h1)
 simpa [cH] using h3
theorem rP (x s:List UInt8):join [x] s=x:=by simp [join,List.intercalate]
theorem Aq (x y s:List UInt8) (r:List (List UInt8)):join (x::y::r) s=x++(s++join (y::r) s):=by simp [join,List.intercalate,List.intersperse]
theorem qK:∀ (xs:List (List UInt8×List T0)),xs≠ []→(∀ x∈xs,Pc x.1 x.2)→Pc (join (xs.map (·.1)) bR) (dU (xs.map (·.2)))
 | [],h,_=>absurd rfl h
 | [x],_,h=>by
  rw [HL,List.map_nil,rP]
  exact h x HE
 |x::y::r,_,h=>fun c l ts hc hl=>by
  have ih:=qK (y::r) (by simp) (fun z hz=>h z (HI _ hz)) c l ts hc hl
  have h1:=px (c:=44) (by simp) (jj (c:=32) rfl ih)
  have h2:=h x HE 44 _ _ (by decide) h1
  rw [HL,HL,Aq]
  simp only [HL] at h2 ⊢
  simpa [dU,bR] using h2
structure uv (p:Lp) (name:ByteArray) (e:aR):Prop where
 n0:bj name=true
 n1:bj (p.nt.getD e.tab.toNat ByteArray.empty)=true
 n2:bj (p.na.getD e.run.act.toNat ByteArray.empty)=true
 pr:0≤e.prio∧e.prio≤65536
 ln:0≤e.len∧e.len≤65536
 ps:e.pats≠ []
 pt:∀ x∈e.pats,em x
 ar:∀ x∈e.run.args,aI x.1∧aI x.2
theorem kQ {α β γ:Type} (f:Nat→α→β) (g:β→γ) (l:List α):(l.mapIdx f).map g=l.mapIdx fun i x=>g (f i x):=by
 apply List.ext_getElem?
 intro i
 simp [List.getElem?_mapIdx,Function.comp_def]
theorem m8 {a b:Int} (h1:aI a) (h2:aI b):nv a b<bc:=pi h1 h2
theorem rQ {n:Int} (h:0≤n):itoa n=decDigits n.toNat:=by unfold itoa;rw [if_neg (by omega)]
theorem En {k:Int} {x:Pt} {len:Int} (hx:em x) (hl:0≤len∧len≤65536):Pc (gT k x len) (jw k x len):=by
 unfold gT jw
 split
 ·exact Al (m8 hx.1 hx.2.1)
 ·split
  ·rw [rQ hl.1];exact Ao (m8 hx.1 hx.2.1) (by unfold bc;omega)
  ·exact Em (m8 hx.1 hx.2.1) (m8 hx.2.2.1 hx.2.2.2)
theorem Ar {s:ByteArray} {c:UInt8} {l:List UInt8} {ts:List T0} (hs:bj s=true) (hc:aM (c.toNat:Nat)=false) (h:LX (c::l) ts):LX (s.data.toList++c::l) (tX s.data.toList::ts):=by
 obtain ⟨a,b,d,f⟩:=ug hs
 exact vD a b d f hc h
theorem CT {p:Lp} {name:ByteArray} {e:aR} {l:List UInt8} {ts:List T0} (h:uv p name e) (hl:LX l ts):LX (bm p name e++l) (dH p name e++ts):=by
 have a1:=px (c:=41) (by simp) (px (c:=59) (by simp) (jj (c:=10) rfl hl))
 have a2:LX (join (e.run.args.map bK) bR++41::59::10::l) (dU (e.run.args.map fx)++fj [41]::fj [59]::ts):=by
  by_cases hz:e.run.args= []
  ·rw [hz];exact a1
  ·have:=qK (e.run.args.map fun x=>(bK x,fx x)) (by simpa using hz) (fun x hx=>by
    obtain ⟨y,hy,rfl⟩:=HN.1 hx
    exact Al (m8 (h.ar y hy).1 (h.ar y hy).2)) 41 _ _ (by decide) a1
   simpa only [List.map_map,Function.comp_def] using this
 have a3:=Ar h.n2 (c:=40) (by decide) (px (c:=40) (by simp) a2)
 have a4:=jj (c:=32) rfl (Fc (jj (c:=32) rfl a3))
 have a5:=j5 (u:=e.prio.toNat) (by have:=h.pr;unfold bc;omega) (c:=32) (by decide) a4
 have a6:=jj (c:=32) rfl (vD (x:=fw) (by decide) (by decide) (by decide) (by decide) (c:=32) (by decide) (jj (c:=32) rfl a5))
 have hpe:bY (gB p e) e≠ []:=by unfold bY;intro hn;exact h.ps (by simpa using hn)
 have a7:LX (join (bY (gB p e) e) bR++(32::(fw++(32::(decDigits e.prio.toNat++(32::(uu++(32::((p.na.getD e.run.act.toNat ByteArray.empty).data.toList++40::(join (e.run.args.map bK) bR++41::59::10::l)))))))))) (dU (kp (gB p e) e)++tX fw::lJ e.prio.toNat::fj uu::tX (p.na.getD e.run.act.toNat ByteArray.empty).data.toList::fj [40]::(dU (e.run.args.map fx)++fj [41]::fj [59]::ts)):=by
  have:=qK (e.pats.mapIdx fun i x=>(gT (cB (gB p e) i) x e.len,jw (cB (gB p e) i) x e.len)) (by intro hn;exact h.ps (by simpa using hn)) (fun x hx=>by
   obtain ⟨i,hi,rfl⟩:=List.mem_mapIdx.1 hx
   exact En (h.pt _ (Ho hi)) h.ln) 32 _ _ (by decide) a6
  rw [kQ,kQ] at this
  exact this
 have a8:=Ar h.n1 (c:=58) (by decide) (px (c:=58) (by simp) (jj (c:=32) rfl a7))
 have a9:=Ar h.n0 (c:=46) (by decide) (px (c:=46) (by simp) a8)
 unfold bm dH
 rw [rQ h.pr.1]
 simpa [dG,dT,fw,km,uu,jv] using a9
end
section
open Go.Lib
theorem it {l:List Tk} {t:T0} {ts:List T0} (h:l.map st=t::ts):st (af l)=t∧l.tail.map st=ts:=by
 cases l with
 |nil=>cases h
 |cons a r=>
  rw [HL] at h
  injection h with h1 h2
  exact ⟨h1,h2⟩
theorem fR {t:Tk} {k n w:Nat} {s:List UInt8} (h:st t=(k,s,w,n)):t.kind=k∧t.s=s∧t.w=w∧t.n=n:=by
 unfold st at h
 injection h with h1 h
 injection h with h2 h
 injection h with h3 h4
 exact ⟨h1,h2,h3,h4⟩
theorem iT {l:List Tk} {k n w:Nat} {s:List UInt8} {ts:List T0} (h:l.map st=(k,s,w,n)::ts) (hk:k≠0):(ae l).map st=ts:=by
 obtain ⟨h1,h2⟩:=it h
 unfold ae
 rw [if_neg (by rw [(fR h1).1];exact hk)]
 exact h2
theorem gn {l:List Tk} {k n w:Nat} {s:List UInt8} {ts:List T0} (h:l.map st=(k,s,w,n)::ts) (x:List UInt8):bA x l=(s==x&&(k==3 ||k==1)):=by
 obtain ⟨h1,h2⟩:=it h
 obtain ⟨a,b,-,-⟩:=fR h1
 unfold bA
 rw [a,b]
end
section
open Go.Lib
def iH (ts:List Tk):ByteArray:=⟨(af ts).s.toArray⟩
def m9 (l:List ByteArray) (ts:List Tk):Option (Int×List Tk):=if rm (af ts)=true∧iH ts∈l then some (aU l (iH ts),ae ts) else none
def lK (ts:List Tk):Option (Tk×List Tk):=if (af ts).kind=2 then some (af ts,ae ts) else none
def iI (s:List UInt8) (ts:List Tk):Option (List Tk):=if bA s ts=true then some (ae ts) else none
def cT (t:Tk) (w:Int):Bool:=(decide (t.w=0) ||decide ((t.w:Int)=w))&&decide (t.n<2 ^ w.toNat)
def lL (t:Tk) (most:Int):Bool:=decide (t.w=0)&&decide ((t.n:Int)≤most)
def Eo (n m:Nat):Pt:=⟨((n / 18446744073709551616:Nat):Int),((n % 18446744073709551616:Nat):Int),((m / 18446744073709551616:Nat):Int),((m % 18446744073709551616:Nat):Int)⟩
def py (n m:Nat):Pt:=Eo (n&&&m) m
def nc (k w:Int) (ts:List Tk):Option (Pt×Int×List Tk):=
 if bA [95] ts=true then (if k=1 then none else some (Eo 0 0,0,ae ts))
 else (lK ts).bind fun y=>
  if bA [47] y.2=true then (lK (ae y.2)).bind fun z=>if k=2∧cT y.1 w=true∧lL z.1 w=true then some (py y.1.n (dK z.1.n w.toNat),(z.1.n:Int),z.2) else none
  else if bA cH y.2=true then (lK (ae y.2)).bind fun z=>if k=3∧cT y.1 w=true∧cT z.1 w=true then some (py y.1.n z.1.n,0,z.2) else none
  else if k≠2∧cT y.1 w=true then some (py y.1.n (dK w.toNat w.toNat),0,y.2) else none
def gA (p:Lp) (t:eF):Nat→List Pt→Int→List Tk→Option (List Pt×Int×List Tk)
 |0,_,_,_=>none
 |f+1,acc,len,ts=>if acc.length<t.keys.length then (nc (cB t acc.length) (m7 p t acc.length) ts).bind fun y=>
   if bA [44] y.2.2=true then gA p t f (acc++ [y.1]) (len+y.2.1) (ae y.2.2) else some (acc++ [y.1],len+y.2.1,y.2.2)
  else none
def Cu (n:Nat):Int×Int:=(((n / 18446744073709551616:Nat):Int),((n % 18446744073709551616:Nat):Int))
def fS (ps:List Int):Nat→List (Int×Int)→List Tk→Option (List (Int×Int)×List Tk)
 |0,_,_=>none
 |f+1,acc,ts=>(lK ts).bind fun y=>if acc.length<ps.length∧cT y.1 (ps.getD acc.length 0)=true then
   (if bA [44] y.2=true then fS ps f (acc++ [Cu y.1.n]) (ae y.2) else some (acc++ [Cu y.1.n],y.2)) else none
def qL (ps:List Int) (ts:List Tk):Option (List (Int×Int)×List Tk):=
 (iI [40] ts).bind fun t1=>(if bA [41] t1=true then some ([],t1) else fS ps (t1.length+1) [] t1).bind fun y=>
  if bA [41] y.2=true∧y.1.length=ps.length then some (y.1,ae y.2) else none
def nd (ts:List Tk):Option (Int×List Tk):=if bA fw ts=true then (lK (ae ts)).bind fun y=>if lL y.1 65536=true then some ((y.1.n:Int),y.2) else none else some (0,ts)
def oM (p:Lp) (ts:List Tk):Option (aR×List Tk):=
 (iI [46] ts).bind fun t1=>(m9 p.nt t1).bind fun x=>(eG p.tabs x.1).bind fun t=>(iI [58] x.2).bind fun t2=>
  (gA p t (t2.length+1) [] 0 t2).bind fun y=>if y.1.length=t.keys.length then (nd y.2.2).bind fun z=>(iI uu z.2).bind fun t3=>
   (m9 p.na t3).bind fun v=>if v.1∈t.acts then (eG p.acts v.1).bind fun a=>(qL a.params v.2).bind fun u=>(iI [59] u.2).bind fun t4=>
    some (⟨x.1,y.1,y.2.1,z.1,⟨v.1,u.1⟩⟩,t4) else none else none
def jx (p:Lp) (sw:List ByteArray):Nat→List (List aR)→List Tk→Option (List (List aR))
 |0,_,_=>none
 |f+1,out,ts=>if (af ts).kind=0 then some out else (m9 sw ts).bind fun x=>
   if (out.getD x.1.toNat []).length<64 then (oM p x.2).bind fun y=>jx p sw f (out.set x.1.toNat (out.getD x.1.toNat []++ [y.1])) y.2 else none
theorem fy {l:List Tk} {s:List UInt8} {k:Nat} {ts:List T0} (h:l.map st=(k,s,0,0)::ts) (hk:k=3∨k=1):iI s l=some (ae l)∧(ae l).map st=ts:=by
 refine ⟨?_,iT h (by omega)⟩
 unfold iI
 rw [gn h,if_pos]
 rcases hk with rfl|rfl<;>simp
theorem qM {l:List Tk} {s:ByteArray} {ts:List T0} {ns:List ByteArray} {i:Nat} (h:l.map st=tX s.data.toList::ts) (hn:bj s=true) (hi:i<ns.length) (he:ns[i]=s) (hd:s∉ns.take i):m9 ns l=some ((i:Int),ae l)∧(ae l).map st=ts:=by
 refine ⟨?_,iT h (by decide)⟩
 obtain ⟨h1,h2⟩:=it h
 obtain ⟨a,b,-,-⟩:=fR h1
 have e:iH l=s:=by unfold iH;rw [b]
 unfold m9 rm
 rw [a,e,show (⟨(af l).s.toArray⟩:ByteArray)=s from e,hn,if_pos ⟨rfl,by rw [←he];exact Ho hi⟩,ji hi hd he]
theorem gU {l:List Tk} {n:Nat} {ts:List T0} (h:l.map st=lJ n::ts):∃ t,lK l=some (t,ae l)∧t.w=0∧t.n=n∧(ae l).map st=ts:=by
 obtain ⟨h1,h2⟩:=it h
 obtain ⟨a,b,c,d⟩:=fR h1
 refine ⟨af l,?_,c,d,iT h (by decide)⟩
 unfold lK
 rw [if_pos a]
theorem jy {l:List Tk} {k w n:Nat} {s:List UInt8} {ts:List T0} (h:l.map st=(k,s,w,n)::ts) (x:List UInt8) (hx:s≠x∨k=2):bA x l=false:=by
 rw [gn h]
 rcases hx with hx|rfl
 ·simp [hx]
 ·simp
theorem DT {hi lo a b:Int} (h1:aI hi) (h2:aI lo) (h3:aI a) (h4:aI b):Eo (nv hi lo) (nv a b)=⟨hi,lo,a,b⟩:=by
 obtain ⟨a0,a1⟩:=h1
 obtain ⟨b0,b1⟩:=h2
 obtain ⟨c0,c1⟩:=h3
 obtain ⟨d0,d1⟩:=h4
 unfold Eo nv
 rw [show (((hi.toNat*18446744073709551616+lo.toNat) / 18446744073709551616:Nat):Int)=hi by omega,show (((hi.toNat*18446744073709551616+lo.toNat) % 18446744073709551616:Nat):Int)=lo by omega,show (((a.toNat*18446744073709551616+b.toNat) / 18446744073709551616:Nat):Int)=a by omega,show (((a.toNat*18446744073709551616+b.toNat) % 18446744073709551616:Nat):Int)=b by omega]
theorem qN {x:Pt} (h:em x) (h2:nv x.vh x.vl&&&nv x.mh x.ml=nv x.vh x.vl):py (nv x.vh x.vl) (nv x.mh x.ml)=x:=by
 unfold py
 rw [h2,DT h.1 h.2.1 h.2.2.1 h.2.2.2]
theorem DU {x:Int×Int} (h1:aI x.1) (h2:aI x.2):Cu (nv x.1 x.2)=x:=by
 obtain ⟨a0,a1⟩:=h1
 obtain ⟨b0,b1⟩:=h2
 obtain ⟨a,b⟩:=x
 simp only at a0 a1 b0 b1
 unfold Cu nv
 simp only
 rw [show (((a.toNat*18446744073709551616+b.toNat) / 18446744073709551616:Nat):Int)=a by omega,show (((a.toNat*18446744073709551616+b.toNat) % 18446744073709551616:Nat):Int)=b by omega]
def FN (ts:List T0):Prop:=∃ k s r,ts=(k,s,0,0)::r∧s≠ [47]∧s≠cH
theorem At {l:List Tk} {ts:List T0} {k w n m len:Int} {x:Pt} (h:l.map st=jw k x len++ts) (hx:em x) (hk:cZ k=true) (hs:fD w k x n=some m) (hl:k=2→(iS w x).1=len) (he:FN ts):
  ∃ l',nc k w l=some (x,(if k=2 then len else 0),l')∧l'.map st=ts:=by
 have hm:el w x=true:=by
  cases hm:el w x with
  |true=>rfl
  |false=>unfold fD at hs;rw [if_pos hm] at hs;cases hs
 obtain ⟨hw,g1,g2,g3⟩:=(gR hx).1 hm
 obtain ⟨tk,ts',s0,rfl,e0,e1⟩:=he
 unfold cZ at hk
 rw [Hl,decide_eq_true_eq,decide_eq_true_eq] at hk
 have hgo:∀ t:Tk,t.w=0→t.n=nv x.vh x.vl→cT t w=true:=fun t a b=>by unfold cT;rw [a,b];simp [g1]
 unfold nc
 by_cases h1:k=1
 ·subst h1
  have h':l.map st=lJ (nv x.vh x.vl)::(tk,ts',0,0)::s0:=h
  obtain ⟨t,b1,b2,b3,b4⟩:=gU h'
  refine ⟨ae l,?_,b4⟩
  rw [jy h' [95] (.inr rfl),b1]
  simp only [Hy,if_false,Hq]
  rw [jy b4 [47] (.inl e0),jy b4 cH (.inl e1)]
  simp only [Hy,if_false]
  rw [if_pos ⟨by omega,hgo t b2 b3⟩,if_neg (by omega),b3]
  have hmk:fd w x=true:=by
   cases hq:fd w x with
   |true=>rfl
   |false=>
    unfold fD at hs
    rw [if_neg (by rw [hm];decide),if_pos ⟨rfl,(vV hx hm).2 hq⟩] at hs
    cases hs
  rw [←(rN hx hw).1 hmk,qN hx g3]
 ·by_cases h2:k=2
  ·subst h2
   have h':l.map st=lJ (nv x.vh x.vl)::fj [47]::lJ len.toNat::(tk,ts',0,0)::s0:=h
   obtain ⟨t,b1,b2,b3,b4⟩:=gU h'
   have b5:=(fy b4 (.inl rfl)).2
   obtain ⟨t2,c1,c2,c3,c4⟩:=gU b5
   refine ⟨ae (ae (ae l)),?_,c4⟩
   have hi47:bA [47] (ae l)=true:=by rw [gn b4];simp
   rw [jy h' [95] (.inr rfl),b1]
   simp only [Hy,if_false,Hq]
   rw [if_pos hi47,c1]
   simp only [Hq,true_and,if_true]
   have hl':=hl rfl
   have hsome:(iS w x).2=true:=by
    cases hq:(iS w x).2 with
    |true=>rfl
    |false=>
     unfold fD at hs
     rw [if_neg (by rw [hm];decide),if_neg (by omega),if_pos ⟨rfl,hq⟩] at hs
     cases hs
   unfold iS mY at hsome hl'
   rw [if_pos hm] at hsome hl'
   cases hq:qH w.toNat (nv x.mh x.ml) with
   |none=>rw [hq] at hsome;cases hsome
   |some j=>
    rw [hq] at hl'
    simp only at hl'
    obtain ⟨j1,j2⟩:=cO.1 hq
    have hw':=(aA w).1 hw
    have hpl:lL t2 w=true:=by unfold lL;rw [c2,c3];simp;omega
    rw [if_pos ⟨hgo t b2 b3,hpl⟩,b3,c3,show len.toNat=j by omega,j2,qN hx g3,show (j:Int)=len by omega]
  ·have h3:k=3:=by omega
   subst h3
   have h':l.map st=lJ (nv x.vh x.vl)::fj cH::lJ (nv x.mh x.ml)::(tk,ts',0,0)::s0:=h
   obtain ⟨t,b1,b2,b3,b4⟩:=gU h'
   have b5:=(fy b4 (.inl rfl)).2
   obtain ⟨t2,c1,c2,c3,c4⟩:=gU b5
   refine ⟨ae (ae (ae l)),?_,c4⟩
   have hi:bA cH (ae l)=true:=by rw [gn b4];simp
   rw [jy h' [95] (.inr rfl),b1]
   simp only [Hy,if_false,Hq]
   rw [jy b4 [47] (.inl (by decide)),if_pos hi,c1]
   simp only [Hy,if_false,Hq,true_and,Int.reduceEq]
   have hg2:cT t2 w=true:=by unfold cT;rw [c2,c3];simp [g2]
   rw [if_pos ⟨hgo t b2 b3,hg2⟩,b3,c3,qN hx g3]
end
section
open Go.Lib
def iz (kd:Nat→Int):Nat→Nat→Nat
 |_,0=>0
 |i,n+1=>(if kd i=2 then 1 else 0)+iz kd (i+1) n
theorem pz {kd:Nat→Int}:∀ (l:List Int) (i:Nat),(∀ j (h:j<l.length),kd (i+j)=l[j])→fv l=iz kd i l.length
 | [],_,_=>rfl
 |x::l,i,h=>by
  have ih:=pz (kd:=kd) l (i+1) fun j hj=>by
   have:=h (j+1) (by simpa using hj)
   rw [show i+1+j=i+(j+1) by omega,this];rfl
  have h0:=h 0 (by simp)
  simp only [HU,List.getElem_cons_zero] at h0
  unfold fv at ih ⊢
  rw [Hp,iz,h0,List.filter_cons,←ih]
  by_cases hx:x=2
  ·simp [hx];omega
  ·simp [hx]
theorem ng {w k n m:Int} {x:Pt} (h:fD w k x n=some m):m=if k=2 then (iS w x).1 else n:=by
 unfold fD at h
 split at h
 ·cases h
 ·split at h
  ·cases h
  ·split at h
   ·cases h
   ·split at h<;>rename_i hk<;>cases h
    ·rw [if_pos hk]
    ·rw [if_neg hk]
theorem ni {kw kd:Nat→Int}:∀ (xs:List Pt) (i:Nat) (n L:Int),cQ (fun i x n=>fD (kw i) (kd i) x n) i xs n=some L→iz kd i xs.length=0→L=n
 | [],_,_,_,h,_=>by cases h;rfl
 |x::l,i,n,L,h,hc=>by
  rw [cQ] at h
  rw [Hp,iz] at hc
  cases hs:fD (kw i) (kd i) x n with
  |none=>rw [hs] at h;cases h
  |some m=>
   rw [hs] at h
   have hk:¬kd i=2:=fun e=>by rw [if_pos e] at hc;omega
   have:=ni l (i+1) m L h (by omega)
   rw [this,ng hs,if_neg hk]
theorem rR {kw kd:Nat→Int}:∀ (xs:List Pt) (i:Nat) (n L:Int),cQ (fun i x n=>fD (kw i) (kd i) x n) i xs n=some L→∀ j (hj:j<xs.length),(∃ a b,fD (kw (i+j)) (kd (i+j)) xs[j] a=some b)∧(iz kd i xs.length≤1→kd (i+j)=2→(iS (kw (i+j)) xs[j]).1=L)
 | [],_,_,_,_,j,hj=>by simp at hj
 |x::l,i,n,L,h,j,hj=>by
  rw [cQ] at h
  rw [Hp,iz]
  cases hs:fD (kw i) (kd i) x n with
  |none=>rw [hs] at h;cases h
  |some m=>
   rw [hs] at h
   cases j with
   |zero=>
    refine ⟨⟨n,m,hs⟩,fun hc hk=> ?_⟩
    simp only [HU] at hk
    rw [if_pos hk] at hc
    have:=ni l (i+1) m L h (by omega)
    rw [this,ng hs,if_pos hk]
    rfl
   |succ j=>
    have ih:=rR l (i+1) m L h j (by simpa using hj)
    rw [show i+1+j=i+(j+1) by omega] at ih
    exact ⟨ih.1,fun hc hk=>ih.2 (by omega) hk⟩
def nj (kd:Nat→Int) (len:Int):Nat→List Pt→List (List T0)
 |_,[]=> []
 |i,x::l=>jw (kd i) x len::nj kd len (i+1) l
theorem rS (kd:Nat→Int) (len:Int):∀ (xs:List Pt) (i:Nat),(xs.mapIdx fun j x=>jw (kd (i+j)) x len)=nj kd len i xs
 | [],_=>rfl
 |x::l,i=>by
  rw [List.mapIdx_cons,nj,←rS kd len l (i+1)]
  congr 1
  congr 1
  funext j y
  rw [show i+1+j=i+(j+1) by omega]
theorem vX {p:Lp} {t:eF} {len:Int} {s:List UInt8} {ts:List T0} (hs1:s≠ [47]) (hs2:s≠cH) (hs3:s≠ [44]):∀ (xs:List Pt) (acc:List Pt) (n:Int) (f:Nat) (l:List Tk),xs≠ []→xs.length≤f→acc.length+xs.length=t.keys.length→(∀ x∈xs,em x)→(∀ i,i<t.keys.length→cZ (cB t i)=true)→
  (∀ j (hj:j<xs.length),(∃ a b,fD (m7 p t (acc.length+j)) (cB t (acc.length+j)) xs[j] a=some b)∧(cB t (acc.length+j)=2→(iS (m7 p t (acc.length+j)) xs[j]).1=len))→
  l.map st=dU (nj (cB t) len acc.length xs)++(1,s,0,0)::ts→
  ∃ l',gA p t f acc n l=some (acc++xs,n+len*(iz (cB t) acc.length xs.length:Int),l')∧l'.map st=(1,s,0,0)::ts
 | [],_,_,_,_,h,_,_,_,_,_,_=>absurd rfl h
 | [x],acc,n,f,l,_,hf,hz,hok,hkb,hj,h=>by
  match f,hf with
  |f+1,_=>
   obtain ⟨⟨a,b,h1⟩,h2⟩:=hj 0 (by simp)
   simp only [HU,List.getElem_cons_zero] at h1 h2
   simp only [Hp,HY] at hz
   obtain ⟨l',e1,e2⟩:=At (ts:=(1,s,0,0)::ts) (by simpa [nj,dU] using h) (hok x HE) (hkb _ (by omega)) h1 h2 ⟨1,s,ts,rfl,hs1,hs2⟩
   refine ⟨l',?_,e2⟩
   rw [gA,if_pos (by omega),e1]
   simp only [Hq]
   rw [jy e2 [44] (.inl hs3)]
   simp only [Hy,if_false,Hp,HY,iz,HU]
   split<;>simp
 |x::y::r,acc,n,f,l,_,hf,hz,hok,hkb,hj,h=>by
  match f,hf with
  |f+1,hf=>
   obtain ⟨⟨a,b,h1⟩,h2⟩:=hj 0 (by simp)
   simp only [HU,List.getElem_cons_zero] at h1 h2
   simp only [Hp] at hz hf
   obtain ⟨l',e1,e2⟩:=At (ts:=fj [44]::(dU (nj (cB t) len (acc.length+1) (y::r))++(1,s,0,0)::ts)) (by simpa [nj,dU] using h) (hok x HE) (hkb _ (by omega)) h1 h2 ⟨3,[44],_,rfl,by decide,by decide⟩
   have hlen:(acc++ [x]).length=acc.length+1:=by simp
   have hi:bA [44] l'=true:=by rw [gn e2];simp
   obtain ⟨l2,e3,e4⟩:=vX (p:=p) (t:=t) hs1 hs2 hs3 (y::r) (acc++ [x]) (n+(if cB t acc.length=2 then len else 0)) f (ae l') (by simp) (by simp;omega) (by rw [hlen];simp;omega) (fun z hz=>hok z (HI _ hz)) hkb
    (fun j hj'=>by
     have:=hj (j+1) (by simpa using hj')
     rw [hlen,show acc.length+1+j=acc.length+(j+1) by omega]
     exact this) (by rw [hlen];exact iT e2 (by decide))
   refine ⟨l2,?_,e4⟩
   rw [gA,if_pos (by omega),e1]
   simp only [Hq]
   rw [if_pos hi,e3,hlen,HP,List.singleton_append]
   rw [show (x::y::r).length=(y::r).length+1 from rfl,iz]
   split
   ·have:n+len+len*(iz (cB t) (acc.length+1) (y::r).length:Int)=n+len*((1+iz (cB t) (acc.length+1) (y::r).length:Nat):Int):=by
     rw [Int.natCast_add,Int.mul_add];simp;omega
    rw [this]
   ·simp
theorem vY {ps:List Int} {ts:List T0}:∀ (xs acc:List (Int×Int)) (f:Nat) (l:List Tk),xs≠ []→xs.length≤f→acc.length+xs.length=ps.length→(∀ x∈xs,aI x.1∧aI x.2)→(∀ j (hj:j<xs.length),bN (ps.getD (acc.length+j) 0) xs[j].1 xs[j].2=true)→
  l.map st=dU (xs.map fx)++fj [41]::ts→∃ l',fS ps f acc l=some (acc++xs,l')∧l'.map st=fj [41]::ts
 | [],_,_,_,h,_,_,_,_,_=>absurd rfl h
 | [x],acc,f,l,_,hf,hz,hu,hj,h=>by
  match f,hf with
  |f+1,_=>
   have h1:=hj 0 (by simp)
   simp only [HU,List.getElem_cons_zero] at h1
   simp only [Hp,HY] at hz
   obtain ⟨u1,u2⟩:=hu x HE
   rw [iR u1 u2,decide_eq_true_eq] at h1
   obtain ⟨t,b1,b2,b3,b4⟩:=gU (l:=l) (n:=nv x.1 x.2) (ts:=fj [41]::ts) (by simpa [fx,dU] using h)
   refine ⟨ae l,?_,b4⟩
   have hg:cT t (ps.getD acc.length 0)=true:=by unfold cT;rw [b2,b3,decide_eq_true h1];simp
   rw [fS,b1]
   simp only [Hq]
   rw [if_pos ⟨by omega,hg⟩,jy b4 [44] (.inl (by decide)),b3,DU u1 u2]
   simp
 |x::y::r,acc,f,l,_,hf,hz,hu,hj,h=>by
  match f,hf with
  |f+1,hf=>
   have h1:=hj 0 (by simp)
   simp only [HU,List.getElem_cons_zero] at h1
   simp only [Hp] at hz hf
   obtain ⟨u1,u2⟩:=hu x HE
   rw [iR u1 u2,decide_eq_true_eq] at h1
   obtain ⟨t,b1,b2,b3,b4⟩:=gU (l:=l) (n:=nv x.1 x.2) (ts:=fj [44]::(dU ((y::r).map fx)++fj [41]::ts)) (by simpa [fx,dU] using h)
   have hg:cT t (ps.getD acc.length 0)=true:=by unfold cT;rw [b2,b3,decide_eq_true h1];simp
   have hlen:(acc++ [x]).length=acc.length+1:=by simp
   obtain ⟨l2,e3,e4⟩:=vY (ps:=ps) (y::r) (acc++ [x]) f (ae (ae l)) (by simp) (by simp;omega) (by rw [hlen];simp;omega) (fun z hz=>hu z (HI _ hz))
    (fun j hj'=>by
     have:=hj (j+1) (by simpa using hj')
     rw [hlen,show acc.length+1+j=acc.length+(j+1) by omega]
     exact this) (iT b4 (by decide))
   refine ⟨l2,?_,e4⟩
   have hi:bA [44] (ae l)=true:=by rw [gn b4];simp
   rw [fS,b1]
   simp only [Hq]
   rw [if_pos ⟨by omega,hg⟩,if_pos hi,b3,DU u1 u2,e3,HP,List.singleton_append]
end
section
open Go.Lib
def fg (l:List ByteArray):Prop:=∀ i (h:i<l.length),bj l[i]=true∧l[i]∉l.take i
theorem kv {α:Type} {l:List α} {i:Int} {x:α} (h:eG l i=some x):0≤i∧∃ h:i.toNat<l.length,l[i.toNat]=x:=by
 unfold eG at h
 split at h
 ·rename_i h0
  obtain ⟨a,b⟩:=HV.1 h
  exact ⟨h0,a,b⟩
 ·cases h
theorem mc {l:List ByteArray} {i:Nat} (h:i<l.length) (d:ByteArray):l.getD i d=l[i]:=by rw [HT,Hn h];rfl
structure nk (p:Lp) (e:aR) (t:eF) (a:qv):Prop where
 ht:eG p.tabs e.tab=some t
 ha:eG p.acts e.run.act=some a
 tl:e.tab.toNat<p.nt.length∧0≤e.tab
 al:e.run.act.toNat<p.na.length∧0≤e.run.act
 pr:0≤e.prio∧e.prio≤65536
 pk:e.pats.length=t.keys.length
 k0:e.pats≠ []
 kk:t.kinds.length=t.keys.length
 kb:∀ i,i<t.keys.length→cZ (cB t i)=true
 pf:fv t.kinds≤1
 mem:e.run.act∈t.acts
 al2:e.run.args.length=a.params.length
 fit:∀ j (hj:j<e.run.args.length),bN (a.params.getD j 0) e.run.args[j].1 e.run.args[j].2=true
 fld:cQ (fun i x n=>fD (m7 p t i) (cB t i) x n) 0 e.pats 0=some e.len
theorem dr {p:Lp} {t:eF} (h:iO p t=true):1≤t.keys.length∧t.keys.length≤4∧t.kinds.length=t.keys.length∧(∀ i,i<t.keys.length→cZ (cB t i)=true)∧fv t.kinds≤1:=by
 unfold iO at h
 simp only [Hl,decide_eq_true_eq,Bool.not_eq_true',decide_eq_false_iff_not] at h
 obtain ⟨⟨⟨⟨⟨⟨⟨⟨⟨-,h4⟩,h0⟩,hk⟩,hkb⟩,hpf⟩,-⟩,-⟩,-⟩,-⟩:=h
 refine ⟨by omega,h4,hk,fun i hi=> ?_,hpf⟩
 have:=(aF _ _).1 hkb i (by omega)
 rw [ag _ (show i<t.kinds.length by omega)] at this
 unfold cB
 rw [HT,Hn (by omega)]
 exact this
theorem ck {p:Lp} (h:bW p=true):p.na.length=p.acts.length∧p.nt.length=p.tabs.length∧∀ t∈p.tabs,iO p t=true:=by
 unfold bW at h
 simp only [Hl] at h
 obtain ⟨⟨⟨⟨⟨⟨⟨-,hnm⟩,-⟩,-⟩,-⟩,-⟩,htb⟩,-⟩:=h
 unfold gP at hnm
 simp only [Hl,decide_eq_true_eq] at hnm
 exact ⟨hnm.1.2,hnm.2,Hx.1 htb⟩
theorem nn {p:Lp} {e:aR} (hm:bW p=true) (ho:gm p e=true):∃ t a,nk p e t a:=by
 obtain ⟨n1,n2,n3⟩:=ck hm
 unfold gm at ho
 cases ht:eG p.tabs e.tab with
 |none=>rw [ht] at ho;cases ho
 |some t=>
  rw [ht] at ho
  simp only [Hl,decide_eq_true_eq] at ho
  obtain ⟨hp,hk,hr,hf⟩:=ho
  obtain ⟨t0,t1,-⟩:=kv ht
  obtain ⟨k1,k2,k3,k4,k5⟩:=dr (n3 t (gh ht))
  unfold dD at hr
  cases ha:eG p.acts e.run.act with
  |none=>rw [ha] at hr;cases hr
  |some a=>
   rw [ha] at hr
   simp only [Hl,decide_eq_true_eq] at hr
   obtain ⟨hin,heq⟩:=hr
   obtain ⟨a0,a1,-⟩:=kv ha
   obtain ⟨q1,q2⟩:=(lV _ _ _).1 heq
   unfold gS at hp
   simp only [Hl,decide_eq_true_eq] at hp
   refine ⟨t,a,ht,ha,⟨by omega,t0⟩,⟨by omega,a0⟩,hp,hk,fun e0=> ?_,k3,k4,k5,hin,q1,fun j hj=> ?_,hf⟩
   ·rw [e0] at hk;simp at hk;omega
   ·have:=q2 j hj (by omega)
    rw [HT,Hn (by omega)]
    exact this
theorem Aw {w:Int} {x:Pt}:0≤(iS w x).1∧(iS w x).1≤128:=by
 unfold iS mY
 split
 ·rename_i hm
  unfold el at hm
  rw [Hl,aA] at hm
  cases hl:qH w.toNat (nv x.mh x.ml) with
  |none=>exact ⟨by decide,by decide⟩
  |some n=>
   have:=(cO.1 hl).1
   simp only
   omega
 ·exact ⟨by decide,by decide⟩
theorem pA {kw kd:Nat→Int}:∀ (xs:List Pt) (i:Nat) (n L:Int),cQ (fun i x n=>fD (kw i) (kd i) x n) i xs n=some L→0≤n∧n≤128→0≤L∧L≤128
 | [],_,_,_,h,hn=>by cases h;exact hn
 |x::l,i,n,L,h,hn=>by
  rw [cQ] at h
  cases hs:fD (kw i) (kd i) x n with
  |none=>rw [hs] at h;cases h
  |some m=>
   rw [hs] at h
   refine pA l (i+1) m L h ?_
   rw [ng hs]
   split
   ·exact Aw
   ·exact hn
theorem nk.len {p:Lp} {e:aR} {t:eF} {a:qv} (h:nk p e t a):0≤e.len∧e.len≤128:=pA _ _ _ _ h.fld ⟨by decide,by decide⟩
theorem CU {l:List Tk} {n:Nat} {ts:List T0} (h:l.map st=tX fw::lJ n::ts) (hn:n≤65536):nd l=some ((n:Int),ae (ae l))∧(ae (ae l)).map st=ts:=by
 have h1:=(fy h (.inr rfl)).2
 obtain ⟨t,b1,b2,b3,b4⟩:=gU h1
 refine ⟨?_,b4⟩
 have hi:bA fw l=true:=by rw [gn h];simp
 have hp:lL t 65536=true:=by unfold lL;rw [b2,b3];simp;omega
 unfold nd
 rw [if_pos hi,b1]
 simp only [Hq]
 rw [if_pos hp,b3]
theorem Ep {ps:List Int} {xs:List (Int×Int)} {l:List Tk} {ts:List T0} (hz:xs.length=ps.length) (hu:∀ x∈xs,aI x.1∧aI x.2) (hj:∀ j (hj:j<xs.length),bN (ps.getD j 0) xs[j].1 xs[j].2=true)
  (h:l.map st=fj [40]::(dU (xs.map fx)++fj [41]::ts)):∃ l',qL ps l=some (xs,l')∧l'.map st=ts:=by
 obtain ⟨e1,e2⟩:=fy h (.inl rfl)
 unfold qL
 rw [e1]
 simp only [Hq]
 by_cases h0:xs= []
 ·subst h0
  have e2':(ae l).map st=fj [41]::ts:=e2
  have hi:bA [41] (ae l)=true:=by rw [gn e2'];simp
  refine ⟨ae (ae l),?_,iT e2' (by decide)⟩
  rw [if_pos hi]
  simp only [Hq]
  rw [if_pos ⟨hi,hz⟩]
 ·have hl:xs.length≤(ae l).length+1:=by
   have h1:((ae l).map st).length=(ae l).length:=Hz _
   rw [e2] at h1
   have h2:∀ ys:List (Int×Int),ys.length≤(dU (ys.map fx)).length:=by
    intro ys
    induction ys with
    |nil=>simp
    |cons y r ih=>
     cases r with
     |nil=>simp [dU,fx]
     |cons z r=>simp [dU,fx] at ih ⊢;omega
   have:=h2 xs
   rw [Hu] at h1
   omega
  obtain ⟨l2,e3,e4⟩:=vY xs [] ((ae l).length+1) (ae l) h0 hl (by simpa using hz) hu (fun j hj'=>by simpa using hj j hj') e2
  have hn:bA [41] (ae l)=false:=by
   cases xs with
   |nil=>exact absurd rfl h0
   |cons x r=>
    have:∃ r',(ae l).map st=lJ (nv x.1 x.2)::r':=by
     rw [e2]
     cases r with
     |nil=>exact ⟨_,rfl⟩
     |cons y r=>exact ⟨_,rfl⟩
    obtain ⟨r',hr⟩:=this
    exact jy hr [41] (.inr rfl)
  have hi:bA [41] l2=true:=by rw [gn e4];simp
  refine ⟨ae l2,?_,iT e4 (by decide)⟩
  rw [hn]
  simp only [Hy,if_false,e3,Hq,H5]
  rw [if_pos ⟨hi,hz⟩]
theorem Er {p:Lp} {e:aR} {t:eF} {a:qv} {l:List Tk} {ts:List T0} (h:nk p e t a) (he:CQ e) (hu:∀ x∈e.run.args,aI x.1∧aI x.2) (hnt:fg p.nt) (hna:fg p.na)
  (hl:l.map st=fj [46]::tX (dG p.nt e.tab)::fj [58]::(dU (kp (gB p e) e)++tX fw::lJ e.prio.toNat::fj uu::tX (dG p.na e.run.act)::fj [40]::(dU (e.run.args.map fx)++fj [41]::fj [59]::ts))):
  ∃ l',oM p l=some (e,l')∧l'.map st=ts:=by
 have hta:gB p e=t:=by unfold gB;rw [h.ht];rfl
 rw [hta] at hl
 obtain ⟨a1,a2⟩:=fy hl (.inl rfl)
 obtain ⟨t1,t2⟩:=h.tl
 obtain ⟨c1,c2⟩:=h.al
 have ei:((e.tab.toNat:Nat):Int)=e.tab:=by omega
 have ej:((e.run.act.toNat:Nat):Int)=e.run.act:=by omega
 obtain ⟨b1,b2⟩:=qM (s:=p.nt[e.tab.toNat]) (ns:=p.nt) (i:=e.tab.toNat) (by rw [←mc t1 ByteArray.empty];exact a2) (hnt _ t1).1 t1 rfl (hnt _ t1).2
 obtain ⟨d1,d2⟩:=fy b2 (.inl rfl)
 have hps:kp t e=nj (cB t) e.len 0 e.pats:=by
  unfold kp
  rw [←rS]
  simp only [HS]
 rw [hps] at d2
 have hc:fv t.kinds=iz (cB t) 0 e.pats.length:=by
  rw [h.pk,←h.kk]
  exact pz t.kinds 0 fun j hj=>by unfold cB;rw [HS,HT,Hn hj];rfl
 have hfe:=rR e.pats 0 0 e.len h.fld
 have hln:e.pats.length≤(ae (ae (ae l))).length+1:=by
  have h1:((ae (ae (ae l))).map st).length=(ae (ae (ae l))).length:=Hz _
  rw [d2,Hu] at h1
  have h2:∀ (ys:List Pt) (i:Nat),ys.length≤(dU (nj (cB t) e.len i ys)).length:=by
   intro ys
   induction ys with
   |nil=>intro i;simp
   |cons y r ih=>
    intro i
    have h3:1≤(jw (cB t i) y e.len).length:=by
     unfold jw
     split
     ·simp
     ·split<;>simp
    cases r with
    |nil=>simpa [nj,dU] using h3
    |cons z r=>
     have:=ih (i+1)
     simp only [nj,dU,Hu,Hp] at this ⊢
     omega
  have:=h2 e.pats 0
  omega
 obtain ⟨l2,f1,f2⟩:=vX (p:=p) (t:=t) (len:=e.len) (s:=fw) (by decide) (by decide) (by decide) e.pats [] 0 ((ae (ae (ae l))).length+1) (ae (ae (ae l))) h.k0 hln (by simpa using h.pk) he h.kb
  (fun j hj=>by
   have:=hfe j hj
   simp only [HS,HY] at this ⊢
   exact ⟨this.1,this.2 (by rw [←hc];exact h.pf)⟩) d2
 obtain ⟨g1,g2⟩:=CU f2 (by have:=h.pr;omega)
 obtain ⟨i1,i2⟩:=fy g2 (.inl rfl)
 obtain ⟨j1,j2⟩:=qM (s:=p.na[e.run.act.toNat]) (ns:=p.na) (i:=e.run.act.toNat) (by rw [←mc c1 ByteArray.empty];exact i2) (hna _ c1).1 c1 rfl (hna _ c1).2
 obtain ⟨l3,k1,k2⟩:=Ep h.al2 hu h.fit j2
 obtain ⟨m1,m2⟩:=fy k2 (.inl rfl)
 refine ⟨ae l3,?_,m2⟩
 have hlen:(0:Int)+e.len*(iz (cB t) 0 e.pats.length:Int)=e.len:=by
  have h1:=h.pf
  rw [hc] at h1
  by_cases h0:iz (cB t) 0 e.pats.length=0
  ·rw [h0,ni e.pats 0 0 e.len h.fld h0];rfl
  ·rw [show iz (cB t) 0 e.pats.length=1 by omega];simp
 have hpr:((e.prio.toNat:Nat):Int)=e.prio:=by have:=h.pr;omega
 unfold oM
 rw [a1]
 simp only [Hq,b1,ei,h.ht,d1,f1,H5,HY]
 rw [if_pos h.pk]
 simp only [g1,Hq,i1,j1,ej]
 rw [if_pos h.mem]
 simp only [h.ha,Hq,k1,m1,hpr,hlen]
end
section
open Go.Lib
def xB (es:List aR):Prop:=∀ e∈es,CQ e∧∀ x∈e.run.args,aI x.1∧aI x.2
theorem DV {p:Lp} {sw:List ByteArray} (hm:bW p=true) (hnt:fg p.nt) (hna:fg p.na) {i:Nat} (hi:i<sw.length) (hsn:bj sw[i]=true) (hsd:sw[i]∉sw.take i):
  ∀ (es:List aR) (out:List (List aR)) (f:Nat) (l:List Tk) (ts:List T0),out.length=sw.length→(out.getD i []).length+es.length≤64→(∀ e∈es,gm p e=true)→xB es→l.map st=es.flatMap (dH p sw[i])++ts→
  ∃ l',jx p sw (f+es.length) out l=jx p sw f (out.set i (out.getD i []++es)) l'∧l'.map st=ts
 | [],out,f,l,ts,ho,_,_,_,h=>by
  refine ⟨l,?_,h⟩
  have:out.set i (out.getD i []++ [])=out:=by
   rw [H2,HT,Hn (by omega)]
   exact List.set_getElem_self (by omega)
  rw [this]
  rfl
 |e::r,out,f,l,ts,ho,h64,h1,hk,h=>by
  simp only [Hp] at h64
  obtain ⟨t,a,hE⟩:=nn hm (h1 e HE)
  obtain ⟨k1,k2⟩:=hk e HE
  have h':l.map st=tX sw[i].data.toList::fj [46]::tX (dG p.nt e.tab)::fj [58]::(dU (kp (gB p e) e)++tX fw::lJ e.prio.toNat::fj uu::tX (dG p.na e.run.act)::fj [40]::(dU (e.run.args.map fx)++fj [41]::fj [59]::(r.flatMap (dH p sw[i])++ts))):=by
   rw [h];simp [dH]
  obtain ⟨n1,n2⟩:=qM (ns:=sw) h' hsn hi rfl hsd
  obtain ⟨l1,e1,e2⟩:=Er hE k1 k2 hnt hna n2
  have hk0:¬(af l).kind=0:=by
   obtain ⟨g1,-⟩:=it h'
   rw [(fR g1).1];decide
  have hg:(out.set i (out.getD i []++ [e])).getD i []=out.getD i []++ [e]:=by
   rw [HT,List.getElem?_set_self (by omega)];rfl
  obtain ⟨l2,e3,e4⟩:=DV hm hnt hna hi hsn hsd r (out.set i (out.getD i []++ [e])) f l1 ts (by simpa using ho) (by rw [hg,Hu,Ie];omega) (fun x hx=>h1 x (HI _ hx)) (fun x hx=>hk x (HI _ hx)) e2
  refine ⟨l2,?_,e4⟩
  rw [show f+(e::r).length=(f+r.length)+1 from rfl,jx,if_neg hk0,n1]
  simp only [Hq,HG]
  rw [if_pos (by omega),e1]
  simp only [Hq]
  rw [e3,hg,List.set_set,HP,List.singleton_append]
def E3 (l:List (List aR)):Nat:=(l.map List.length).sum
theorem Ay {p:Lp} {sw:List ByteArray} {l:List (List aR)} (hm:bW p=true) (hnt:fg p.nt) (hna:fg p.na) (hlen:l.length=sw.length) (hsw:fg sw) (h64:∀ x∈l,x.length≤64∧(∀ e∈x,gm p e=true)∧xB x):
  ∀ (m k f:Nat) (toks:List Tk),k+m=sw.length→E3 (l.drop k)<f→toks.map st=((sw.zip l).drop k).flatMap (fun x=>x.2.flatMap (dH p x.1))++ [(0,[],0,0)]→jx p sw f (l.take k++List.replicate m []) toks=some l
 |0,k,f,toks,hk,hf,h=>by
  have hz:(sw.zip l).drop k= []:=List.drop_eq_nil_of_le (by simp;omega)
  rw [hz] at h
  have h':toks.map st=(0,[],0,0):: []:=h
  obtain ⟨g1,-⟩:=it h'
  match f,hf with
  |f+1,_=>
   rw [jx,if_pos (fR g1).1,Ia (by omega)]
   simp
 |m+1,k,f,toks,hk,hf,h=>by
  have hkl:k<l.length:=by omega
  have hks:k<sw.length:=by omega
  have hz:(sw.zip l).drop k=(sw[k],l[k])::(sw.zip l).drop (k+1):=by
   rw [H4 (by simp;omega),List.getElem_zip]
  rw [hz,H7,HP] at h
  obtain ⟨a1,a2,a3⟩:=h64 l[k] (Ho hkl)
  have hout:(l.take k++List.replicate (m+1) []).getD k []=([]:List aR):=by
   rw [HT,List.getElem?_append_right (by simp;omega)]
   simp [Nat.min_eq_left (Hs hkl)]
  have hdr:E3 (l.drop k)=l[k].length+E3 (l.drop (k+1)):=by
   unfold E3;rw [H4 hkl,HL,List.sum_cons]
  obtain ⟨l2,e1,e2⟩:=DV hm hnt hna hks (hsw k hks).1 (hsw k hks).2 l[k] (l.take k++List.replicate (m+1) []) (f-l[k].length) toks _ (by simp;omega) (by rw [hout];simpa using a1) a2 a3 h
  rw [show f-l[k].length+l[k].length=f by omega] at e1
  rw [e1,hout,H5]
  have hset:(l.take k++List.replicate (m+1) []).set k l[k]=l.take (k+1)++List.replicate m []:=by
   rw [List.set_append_right _ _ (by simp;omega),HR hkl,HP]
   congr 1
   rw [HF,Nat.min_eq_left (Hs hkl),Nat.sub_self,List.replicate_succ,List.set_cons_zero]
   rfl
  rw [hset]
  exact Ay hm hnt hna hlen hsw h64 m (k+1) (f-l[k].length) l2 (by omega) (by omega) e2
theorem rU {p:Lp} {name:ByteArray} {l:List UInt8} {ts:List T0}:∀ (es:List aR),(∀ e∈es,uv p name e)→LX l ts→LX (es.flatMap (bm p name)++l) (es.flatMap (dH p name)++ts)
 | [],_,h=>h
 |e::r,hk,h=>by
  have ih:=rU r (fun x hx=>hk x (HI _ hx)) h
  have:=CT (hk e HE) ih
  simpa [H7,HP] using this
theorem rV {p:Lp}:∀ (xs:List (ByteArray×List aR)),(∀ x∈xs,∀ e∈x.2,uv p x.1 e)→LX (xs.flatMap fun x=>x.2.flatMap (bm p x.1)) (xs.flatMap (fun x=>x.2.flatMap (dH p x.1))++ [(0,[],0,0)])
 | [],_=>D6
 |x::r,hk=>by
  have ih:=rV r fun y hy=>hk y (HI _ hy)
  have:=rU x.2 (hk x HE) ih
  simpa [H7,HP] using this
theorem iU {f:List aR→Bool} {sw:List ByteArray} {l:List (List aR)} (hlen:l.length=sw.length) (h:am (fe f sw l) sw.length=true):fg sw∧∀ x∈l,f x=true:=by
 have h':=(aF _ _).1 h
 constructor
 ·intro i hi
  have:=h' i hi
  unfold fe at this
  rw [Hl,Hl,ag _ hi,ag _ hi] at this
  exact ⟨this.1,by simpa using this.2.1⟩
 ·intro x hx
  obtain ⟨i,hi,rfl⟩:=Hw hx
  have:=h' i (by omega)
  unfold fe at this
  rw [Hl,Hl,ag f hi] at this
  exact this.2.2
theorem Az {p:Lp}:∀ (xs:List (ByteArray×List aR)),E3 (xs.map (·.2))≤(xs.flatMap fun x=>x.2.flatMap (dH p x.1)).length
 | []=>Hh _
 |x::r=>by
  have ih:=Az (p:=p) r
  have:∀ es:List aR,es.length≤(es.flatMap (dH p x.1)).length:=by
   intro es
   induction es with
   |nil=>simp
   |cons e s ih=>rw [H7,Hu];simp [dH] at ih ⊢;omega
  have h2:=this x.2
  unfold E3 at ih ⊢
  simp only [HL,List.sum_cons,H7,Hu]
  omega
theorem xC {p:Lp} {sw:List ByteArray} {l:List (List aR)} (hm:bW p=true) (hnt:fg p.nt) (hna:fg p.na) (hlen:l.length=sw.length) (hok:am (fe (aV p) sw l) sw.length=true) (hE:∀ x∈l,xB x)
  (h16:(cR (aV p) p sw l).length≤65536):∃ r,eU (cR (aV p) p sw l)=.ok r∧jx p sw (r.length+1) (List.replicate sw.length []) r=some l:=by
 obtain ⟨hsw,hmay⟩:=iU hlen hok
 have hmay':∀ x∈l,x.length≤64∧(∀ e∈x,gm p e=true)∧xB x:=fun x hx=>by
  have:=hmay x hx
  unfold aV at this
  rw [Hl,Hl,decide_eq_true_eq,Hx] at this
  exact ⟨this.2.1,this.2.2,hE x hx⟩
 have ht:cR (aV p) p sw l=(sw.zip l).flatMap (fun x=>x.2.flatMap (bm p x.1)):=by
  unfold cR
  rw [if_neg (by omega),if_pos hok]
 rw [ht] at h16 ⊢
 have hlx:=rV (p:=p) (sw.zip l) fun x hx e he=>by
  have hx2:x.2∈l:=(List.of_mem_zip (a:=x.1) (b:=x.2) hx).2
  have hx1:x.1∈sw:=(List.of_mem_zip (a:=x.1) (b:=x.2) hx).1
  obtain ⟨b1,b2,b3⟩:=hmay' x.2 hx2
  obtain ⟨t,a,hEn⟩:=nn hm (b2 e he)
  obtain ⟨i,hi,hii⟩:=Hw hx1
  obtain ⟨k1,k2⟩:=b3 e he
  have hl:=hEn.len
  exact ⟨by rw [←hii];exact (hsw i hi).1,by rw [mc hEn.tl.1];exact (hnt _ hEn.tl.1).1,by rw [mc hEn.al.1];exact (hna _ hEn.al.1).1,hEn.pr,⟨hl.1,by omega⟩,hEn.k0,k1,k2⟩
 obtain ⟨r,h1,h2⟩:=hlx (((sw.zip l).flatMap (fun x=>x.2.flatMap (bm p x.1))).length+1) 0 (HA _)
 refine ⟨r,?_,?_⟩
 ·unfold eU
  rw [if_neg (by omega)]
  exact h1
 ·have hr:r.length=(((sw.zip l).flatMap (fun x:ByteArray×List aR=>x.2.flatMap (dH p x.1)))++ [(0,[],0,0)]).length:=by rw [←h2,Hz]
  have ht2:=Az (p:=p) (sw.zip l)
  have hmz:(sw.zip l).map (fun x:ByteArray×List aR=>x.2)=l:=List.map_snd_zip (by omega)
  rw [hmz] at ht2
  rw [Hu] at hr
  have h3:((sw.zip l).drop 0).flatMap (fun x:ByteArray×List aR=>x.2.flatMap (dH p x.1))=(sw.zip l).flatMap (fun x=>x.2.flatMap (dH p x.1)):=by rw [HX]
  have:=Ay hm hnt hna hlen hsw hmay' sw.length 0 (r.length+1) r (by omega) (by simp only [HX];omega) (by rw [h3];exact h2)
  simpa using this
end
def Cv:Lp:=⟨[],[8],[⟨[],[],[],-1⟩],[⟨[9],[]⟩],[⟨[[⟨3,8,0,0,0,0⟩]],[2],[0],⟨0,[(0,0)]⟩⟩],[],[],[],[],[⟨#[109]⟩],[⟨#[102,119,100]⟩],[⟨#[116]⟩]⟩
def bz (w:World) (b:Nat) (l:List Value):Prop:=∀ (j:Nat) (u:Value),l[j]? =some u→w.cell? ⟨b,j,none⟩=some u
theorem bz.below {w W:World} {B b:Nat} {l:List Value} (h:bz w b l) (hb:Below B w W) (hl:b<B):bz W b l:=fun j u hu=>(hb.cell (p:=⟨b,j,none⟩) hl).trans (h j u hu)
theorem rp {α:Type} {k:Nat} {R:CR α} {w:World} {B b:Nat} {ecs:List Value} {x:α} (h:bz w b ecs) (hb:b<B) (hk:ecs.length=k) (hR:R w B ecs x):Sl k R w B (some ⟨b,0,none⟩) [x]:=
 ⟨by simp [maxLen],fun i y hy=>by
  match i,hy with
  |0,hy=>cases hy;exact ⟨b,0,ecs,rfl,hb,hk,fun j u hu=>by simpa using h j u hu,hR⟩⟩
def sV (b:Nat):Value:=.slice (some ⟨b,0,none⟩) 1 1
def sN:Value:=.slice none 0 0
theorem Es {w:World} {B n:Nat} (hB:n+15≤B) (h1:bz w (n+1) [.int .i64 8]) (h2:bz w (n+2) [sN,sN,sN,.int .i64 (-1)]) (h3:bz w (n+3) [.int .i64 9]) (h4:bz w (n+4) [sV (n+3),sN])
  (h6:bz w (n+6) [.int .u8 3,.int .i64 8,.int .i64 0,.int .i64 0,.int .u64 0,.int .u64 0]) (h7:bz w (n+7) [sV (n+6)]) (h8:bz w (n+8) [.int .u8 2]) (h9:bz w (n+9) [.int .i64 0]) (h10:bz w (n+10) [.int .u64 0,.int .u64 0])
  (h11:bz w (n+11) [sV (n+7),sV (n+8),sV (n+9),.int .i64 0,sV (n+10)]) (h12:bz w (n+12) [.string ⟨#[109]⟩]) (h13:bz w (n+13) [.string ⟨#[102,119,100]⟩]) (h14:bz w (n+14) [.string ⟨#[116]⟩]):
  cJ w B none (some ⟨n+1,0,none⟩) (some ⟨n+2,0,none⟩) (some ⟨n+4,0,none⟩) (some ⟨n+11,0,none⟩) none none none none (some ⟨n+12,0,none⟩) (some ⟨n+13,0,none⟩) (some ⟨n+14,0,none⟩) Cv where
 heads:=Sl.nil_
 metas:=rp h1 (by omega) rfl rfl
 steps:=rp h2 (by omega) rfl ⟨none,none,none,0,0,0,rfl,Sl.nil_,Sl.nil_,Sl.nil_,by decide⟩
 acts:=rp h4 (by omega) rfl ⟨some ⟨n+3,0,none⟩,none,1,0,rfl,rp h3 (by omega) rfl rfl,Sl.nil_⟩
 tabs:=rp h11 (by omega) rfl ⟨some ⟨n+7,0,none⟩,some ⟨n+8,0,none⟩,some ⟨n+9,0,none⟩,some ⟨n+10,0,none⟩,1,1,1,1,rfl,rp h7 (by omega) rfl ⟨some ⟨n+6,0,none⟩,1,rfl,rp h6 (by omega) rfl ⟨rfl,⟨by decide,by decide⟩,⟨by decide,by decide⟩,⟨by decide,by decide⟩⟩⟩,rp h8 (by omega) rfl rfl,rp h9 (by omega) rfl rfl,rp h10 (by omega) rfl ⟨rfl,⟨by decide,by decide⟩,⟨by decide,by decide⟩⟩,by decide,by decide⟩
 control:=Sl.nil_
 emit:=Sl.nil_
 nh:=Sl.nil_
 nf:=Sl.nil_
 nm:=rp h12 (by omega) rfl ⟨rfl,by decide⟩
 na:=rp h13 (by omega) rfl ⟨rfl,by decide⟩
 nt:=rp h14 (by omega) rfl ⟨rfl,by decide⟩
section
open Go.Lib
def FC (p:Nat×Nat) (c:UInt8):Nat×Nat:=if c=10 then (p.1+1,1) else (p.1,p.2+1)
def be (l:List UInt8):Nat×Nat:=l.foldl FC (1,1)
theorem rW (l:List UInt8) {k:Nat} (h:k<l.length):be (l.take (k+1))=FC (be (l.take k)) l[k]:=by
 unfold be
 rw [HR h,List.foldl_append]
 rfl
theorem iV (s:ByteArray) (c:Int):∀ k,-1≤lastIdx s c k∧lastIdx s c k<(k:Int)
 |0=>by simp [lastIdx]
 |k+1=>by
  have:=iV s c k
  unfold lastIdx
  split<;>omega
theorem kR (s:ByteArray):∀ k,k≤s.size→be (s.data.toList.take k)=(countByte (s.data.toList.take k) 10+1,((k:Int)-(lastIdx s 10 k+1)+1).toNat)
 |0,_=>by simp [be,countByte,lastIdx]
 |k+1,h=>by
  have ih:=kR s k (by omega)
  have hl:k<s.data.toList.length:=by rw [←size_eq];omega
  have hle:=iV s 10 k
  rw [rW _ hl,ih]
  have e:s.data[k]! =s.data.toList[k]:=by
   rw [getElem!_pos s.data k (by simpa using hl)]
   simp
  have e0:lastIdx s 10 (k+1)=if ((s.data[k]!).toNat:Int)=10 then (k:Int) else lastIdx s 10 k:=rfl
  rw [e0,e]
  unfold countByte
  rw [HR hl,List.count_append]
  generalize s.data.toList[k]=c
  by_cases hc:c=10
  ·subst hc
   simp [FC]
  ·have hn:¬((c.toNat:Nat):Int)=10:=fun h=>hc (UInt8.toNat_inj.1 (by show _=10;omega))
   have h0:List.count 10 [c]=0:=by
    rw [List.count_eq_zero]
    simp only [List.mem_singleton]
    exact fun h=>hc h.symm
   rw [if_neg hn,h0]
   unfold FC
   rw [if_neg hc]
   show (_,_)=(_,_)
   rw [HU]
   congr 1
   show _+1=_
   omega
theorem uw (s:ByteArray):be s.data.toList=(countByte s.data.toList 10+1,((s.size:Int)-(lastIndexByte s 10+1)+1).toNat)∧ -1≤lastIndexByte s 10∧lastIndexByte s 10<s.size:=by
 have:=kR s s.size (Hh _)
 rw [Ia (by rw [←size_eq];exact Hh _)] at this
 exact ⟨this,iV s 10 s.size⟩
end
end Go.Proofs.YtiebolhmdhdagaaGreatDoor

import Derived.Test.YtiebolhmdhdagaaGreatDoorEwp09
import Derived.Deep.CutBlock
set_option linter.all false
set_option maxHeartbeats 4000000
set_option maxRecDepth 100000
open Go.Proofs.Tryz
namespace Go.Proofs.YtiebolhmdhdagaaGreatDoor
open _root_.Go.RowKit.Below renaming refl→Hf
open _root_.Bool renaming false_and→Hg, true_and→Hk, and_eq_true→Hl
open _root_.Nat renaming le_refl→Hh, le_trans→Hj, zero_le→Hm, le_of_lt→Hs, lt_succ_self→HA
open _root_.List renaming getElem_mem→Ho, length_cons→Hp, length_append→Hu, all_eq_true→Hx, length_map→Hz, mem_cons→HD, mem_cons_self→HE, length_take→HF, getElem?_toArray→HH, range→HJ, getElem?_cons_zero→HK, getElem?_cons_succ→HM, mem_map→HN, mem_range→HO, append_assoc→HP, take_succ_eq_append_getElem→HR, getElem?_eq_some_iff→HV, drop_zero→HX, take_length→HZ, append_nil→H2, length_pos_iff→H3, drop_eq_getElem_cons→H4, nil_append→H5, eq_nil_of_length_eq_zero→H8
open _root_.Int renaming eq_ofNat_of_zero_le→Hv
open _root_.Array renaming getElem?_eq_some_iff→If, getElem?_setIfInBounds→Ih
open Go.RowKit
section
open Go.RowKit Go.Lib
attribute [local go_sem ↓] cU
theorem xM:(prog.info? 5).map (fun i=>(i.zero,i.size,i.bytes))=some (some (.int .u8 0),1,1):=by kernel_rfl
def DX (c:UInt8):Value:=.int .u8 (c.toNat:Int)
def lM (w:World) (base:Nat) (v:Value) (l:List UInt8):Prop:=w.ownsRow base 5 1 v l.length (l.map DX)
theorem lM.nil_ (w:World) (base:Nat):lM w base (.slice none 0 0) []:=World.ownsRow_nil _ _ _ _
theorem lM.below {w w':World} {base C:Nat} {v:Value} {l:List UInt8} (h:lM w base v l) (hb:Below C w w') (hC:w.heap.size≤C):lM w' base v l:=dX h hb hC
theorem lM.form {w:World} {base:Nat} {v:Value} {l:List UInt8} (h:lM w base v l):∃ A cap,v=.slice A l.length cap:=by
 rcases h.2 with ⟨rfl,hz⟩|⟨g,cap,cur,rfl,_⟩
 ·exact ⟨none,0,by rw [hz]⟩
 ·exact ⟨_,_,rfl⟩
theorem xN (xs:List UInt8):∀ u∈xs.map DX,u.oneCell'=true:=fun u hu=>by
 obtain ⟨x,-,rfl⟩:=HN.1 hu;rfl
theorem xO {W:World} {base base':Nat} {v u:Value} {l m:List UInt8} (hd:lM W base v l) (hs:lM W base' u m) (hb:base≤W.heap.size) (hz:l.length≤dI) (hm:m.length≤dI):
  ∃ v' w',(eO #[73,73] 73 #[v,u]).run prog W=.ok v' w'∧lM w' base v' (l++m)∧Below base W w':=by
 unfold dI at hz hm
 obtain ⟨ii,hii,hzi0,hzi1,hzi2⟩:=info_parts xM
 rcases hs.2 with ⟨rfl,hz0⟩|⟨g,cap,cur,rfl,_,hg,_⟩
 ·have hy:m= []:=H8 hz0
  subst hy
  refine ⟨v,W,?_,by rw [H2];exact hd,Hf _ _⟩
  unfold eO
  rcases hd.2 with ⟨rfl,hzz⟩|⟨g,cap,cur,rfl,_,_,hnc,_⟩
  ·simp [Builtin.append_,run_underlying underlying73,sizeOf,typeInfo,hii,Builtin.lenOf,Builtin.firstCells]
  ·simp [Builtin.append_,run_underlying underlying73,sizeOf,typeInfo,hii,Builtin.lenOf,Builtin.firstCells,hnc,storeCells]
 ·obtain ⟨v',w',hrun,h2,h3,_,_⟩:=run_append_own_at (P:=prog) W base 73 73 5 ii (.int .u8 0) 1 1 underlying73 hii hzi0 hzi1 hzi2 rfl (by omega) v l.length _ hd ⟨g,0,none⟩ m.length cap (m.map DX) hs.1
   (fun j x hx=>hs.cells (g:=g) rfl j x hx) (xN m) (by simp [maxLen];omega) (by omega) hb
  exact ⟨v',w',hrun,by unfold lM;simpa using h2,(Hf _ _).grown h3 hb (fun g e=>(hd.lt g e).1)⟩
theorem sr {W:World} {base:Nat} {u:Value} {m:List UInt8} (c:UInt8) (hs:lM W base u m) (hb:base≤W.heap.size) (hm:m.length≤dI):
  ∃ v' w',(eO #[73,73] 73 #[.slice (some ⟨W.heap.size,0,none⟩) 1 1,u]).run prog (W.alloc (.cells #[.int .u8 (c.toNat:Int)] 5))=.ok v' w'∧lM w' base v' (c::m)∧Below base W w':=by
 have hd:lM (W.alloc (.cells #[.int .u8 (c.toNat:Int)] 5)) base (.slice (some ⟨W.heap.size,0,none⟩) 1 1) [c]:=
  ⟨by simp,.inr ⟨W.heap.size,1,#[.int .u8 (c.toNat:Int)],rfl,hb,heap_alloc_new W _,by simp,by decide,rfl,by simp [DX]⟩⟩
 obtain ⟨v',w',h1,h2,h3⟩:=xO hd (World.ownsRow.alloc hs _) (by simp;omega) (by simp [dI]) hm
 exact ⟨v',w',h1,h2,((Hf _ _).alloc hb _).trans h3⟩
theorem qR {W:World} {base:Nat} {v:Value} {l:List UInt8} (h:lM W base v l) (hl:l≠ []):(convert 73 9 v).run prog W=.ok (.string ⟨l.toArray⟩) W:=by
 rcases h.2 with ⟨rfl,hz⟩|⟨g,cap,cur,rfl,_,hg,_⟩
 ·exact absurd (H8 hz) hl
 ·refine run_convert_bytes_back W 73 9 5 ⟨g,0,none⟩ cap l underlying73 underlying5 underlying9 fun j hj=> ?_
  have:=h.cells (g:=g) rfl j (DX l[j]) (by simp [hj])
  simpa [Addr.add,DX] using this
theorem lM.setg {W:World} {base k i:Nat} {v u:Value} {l:List UInt8} (h:lM W base u l) (hk:k<base):lM (W.setCell ⟨k,i,none⟩ v) base u l:=by
 refine ⟨h.1,?_⟩
 rcases h.2 with h2|⟨g,cap,cur,rfl,hg,hh,r⟩
 ·exact .inl h2
 ·exact .inr ⟨g,cap,cur,rfl,hg,(Below.heap_setCell _ _ _ _ (fun e=>by first|(have h2:g=k:=e;omega)|(have h2:k=g:=e;omega))).trans hh,r⟩
theorem jC:∀ (k u:Nat),u<10 ^ (k+1)→(decDigits u).length≤k+1
 |0,u,h=>by rw [Lib.decDigits,dif_pos (by simpa using h)];simp
 |k+1,u,h=>by
  by_cases h1:u<10
  ·rw [Lib.decDigits,dif_pos h1];simp
  ·rw [Lib.decDigits,dif_neg h1,Hu]
   have:=jC k (u / 10) (by rw [Nat.pow_succ] at h;omega)
   simp;omega
def fA (w:World) (g i:Nat):Nat:=match w.cell? ⟨g,i,none⟩ with
 |some (.int _ n)=>n.toNat
 |_=>0
def uC:Value→Nat
 | .slice _ n _=>if n=0 then 1 else 0
 |_=>0
theorem kF (hi lo:Int) (w:World) (h1:aI hi) (h2:aI lo):Calls prog 78 #[.agg #[.int .u64 hi,.int .u64 lo]] w fun e w'=>e=.returned (.string ⟨(decDigits (nv hi lo)).toArray⟩)∧Below w.heap.size w w':=by
 have hN:=pi h1 h2
 obtain ⟨N,hNe⟩:∃ N,N=nv hi lo:=⟨_,rfl⟩
 rw [←hNe] at hN ⊢
 have hlenN:(decDigits N).length≤39:=jC 38 N (by omega)
 have hb0:=dx.new w hi lo 61
 have hbb:Below w.heap.size w (w.alloc (.cells #[.int .u64 hi,.int .u64 lo] 61)):=(Hf _ _).alloc (Hh _) _
 replace hNe:=aa hNe
 replace hN:=aa hN
 replace hlenN:=aa hlenN
 replace hb0:=aa hb0
 replace hbb:=aa hbb
 go_enter func78,ntmps78
 go_wp2
 go_loopw [3] (fun bv wr=>∃ (hi lo:Int) (bs:List UInt8),Hid (dx wr w.heap.size hi lo)∧Hid (aI hi∧aI lo)∧Hid (lM wr (w.heap.size+1) bv bs)∧Hid (Below w.heap.size w wr)∧Hid ((bs= []∧nv hi lo=N)∨(bs≠ []∧decDigits N=(if nv hi lo=0 then [] else decDigits (nv hi lo))++bs))) (fun bv wr=>fA wr w.heap.size 0*18446744073709551616+fA wr w.heap.size 1+uC bv)
 case atStart=>exact ⟨hi,lo,[],hb0,aa ⟨h1,h2⟩,aa (lM.nil_ _ _),hbb,aa (.inl ⟨rfl,hNe.out.symm⟩)⟩
 case round=>
  clear hb0 hbb
  obtain ⟨h,l,bs,hnb,hu,hbs,hbw,hinv⟩:=hrel
  obtain ⟨A,cap,rfl⟩:=hbs.out.form
  have c0:=hnb.out.c0
  have c1:=hnb.out.c1
  have f0:=hnb.out.f0
  have f1:=hnb.out.f1
  have hbl:bs.length≤39:=by
   rcases hinv.out with ⟨rfl,-⟩|⟨-,g⟩
   ·simp
   ·have:=hlenN.out;rw [g,Hu] at this;omega
  by_cases hstop:(h=0∧l=0)∧bs≠ []
  focus
   obtain ⟨⟨rfl,rfl⟩,hne⟩:=hstop
   have hN2:decDigits N=bs:=by
    rcases hinv.out with ⟨g,-⟩|⟨-,g⟩
    ·exact absurd g hne
    ·rw [show nv 0 0=0 from rfl,if_pos rfl,H5] at g;exact g
   rw [hN2]
   have hcv:=qR hbs.out hne
   have hz:((bs.length:Int)==0)=false:=by
    have:=H3.2 hne
    simp;exact hne
   have hz2:decide (bs.length=0)=false:=by simpa using hne
   have hz3:(bs.length==0)=false:=by simpa using hne
   clear hinv hbl
   go_wp2
   go_ret
   exact ⟨by rw [hN2];rfl,hbw.out⟩
  rotate_right
  focus
   obtain ⟨u0,u1⟩:=hu.out.1
   obtain ⟨l0,l1⟩:=hu.out.2
   obtain ⟨q,hq⟩:∃ q,h / 10=q:=⟨_,rfl⟩
   obtain ⟨r,hr⟩:∃ r,h % 10=r:=⟨_,rfl⟩
   obtain ⟨ql,hql⟩:∃ ql,(r*18446744073709551616+l) / 10=ql:=⟨_,rfl⟩
   obtain ⟨d,hd⟩:∃ d,(r*18446744073709551616+l) % 10=d:=⟨_,rfl⟩
   have hD:=fun W=>xL r l W (by omega) (by omega) ⟨l0,l1⟩
   rw [hql,hd] at hD
   obtain ⟨D,rfl⟩:=Hv (show 0≤d by omega)
   have hD10:D<10:=by omega
   have hcc:48+(D:Int)=((UInt8.ofNat (48+D)).toNat:Int):=by
    have:∀ x:Fin 10,48+((x.val:Nat):Int)=((UInt8.ofNat (48+x.val)).toNat:Int):=by decide
    exact this ⟨D,hD10⟩
   have hnv:nv h l=nv q ql*10+D:=by unfold nv;omega
   have hgo2:=aa (show Hid (aI q∧aI ql)∧((UInt8.ofNat (48+D)::bs= []∧nv q ql=N)∨(UInt8.ofNat (48+D)::bs≠ []∧decDigits N=(if nv q ql=0 then [] else decDigits (nv q ql))++UInt8.ofNat (48+D)::bs))∧(nv q ql<nv h l∨(nv q ql=nv h l∧bs= [])) from by
    refine ⟨aa ⟨⟨by omega,by omega⟩,⟨by omega,by omega⟩⟩,.inr ⟨by simp,?_⟩,?_⟩
    ·have key:decDigits (nv h l)=(if nv q ql=0 then [] else decDigits (nv q ql))++ [UInt8.ofNat (48+D)]:=by
      by_cases h10:nv q ql=0
      ·rw [if_pos h10,hnv,h10,decDigits,dif_pos (by omega)];simp
      ·rw [if_neg h10,hnv,decDigits,dif_neg (by omega),show (nv q ql*10+D) / 10=nv q ql by omega,show (nv q ql*10+D) % 10=D by omega]
     rcases hinv.out with ⟨g1,g2⟩|⟨g1,g2⟩
     ·rw [←g2,key,g1]
     ·have hnz:nv h l≠0:=fun e=>hstop ⟨by unfold nv at e;omega,g1⟩
      rw [if_neg hnz,key] at g2
      rw [g2];simp
    ·by_cases h00:nv h l=0
     ·refine .inr ⟨by omega,?_⟩
      by_cases hb0:bs= []
      ·exact hb0
      ·exact absurd ⟨by unfold nv at h00;omega,hb0⟩ hstop
     ·exact .inl (by omega))
   have hF:=aa (fun (W:World) (hW:Below wr.heap.size wr W)=>show ∃ v' w',(eO #[73,73] 73 #[.slice (some ⟨W.heap.size,0,none⟩) 1 1,.slice A bs.length cap]).run prog (((W.setCell ⟨w.heap.size,0,none⟩ (.int .u64 q)).setCell ⟨w.heap.size,1,none⟩ (.int .u64 ql)).alloc (.cells #[.int .u8 (48+(D:Int))] 5))=.ok v' w'∧
     Hid (lM w' (w.heap.size+1) v' (UInt8.ofNat (48+D)::bs))∧Hid (dx w' w.heap.size q ql)∧Hid (Below w.heap.size w w') from by
    have hbx:=((hbs.out.below hW (Hh _)).setg (k:=w.heap.size) (i:=0) (v:=.int .u64 q) (by omega)).setg (k:=w.heap.size) (i:=1) (v:=.int .u64 ql) (by omega)
    have hnx:=(hnb.out.below hW hnb.out.lt).set q ql
    have hsz:((W.setCell ⟨w.heap.size,0,none⟩ (.int .u64 q)).setCell ⟨w.heap.size,1,none⟩ (.int .u64 ql)).heap.size=W.heap.size:=by rw [an,an]
    have hlt:=hnb.out.lt
    have hWs:=hW.size
    obtain ⟨v',w',e1,e2,e3⟩:=sr (UInt8.ofNat (48+D)) hbx (by rw [hsz];omega) (by unfold dI;omega)
    rw [←hcc,hsz] at e1
    have hbe:Below w.heap.size w ((W.setCell ⟨w.heap.size,0,none⟩ (.int .u64 q)).setCell ⟨w.heap.size,1,none⟩ (.int .u64 ql)):=((hbw.out.trans (hW.mono (Hs hlt))).setCell (p:=⟨w.heap.size,0,none⟩) (Hh _) _).setCell (p:=⟨w.heap.size,1,none⟩) (Hh _) _
    exact ⟨v',w',e1,aa e2,aa (hnx.below e3 (by omega)),aa (hbe.trans (e3.mono (by omega)))⟩)
   have hK:=aa (fun (W:World) (hW:Below wr.heap.size wr W)=>hnb.out.below hW hnb.out.lt)
   have hmeas:=aa (show ∀ (W:World) (v':Value) (m:Nat),dx W w.heap.size q ql→lM W (w.heap.size+1) v' (UInt8.ofNat (48+D)::bs)→fA W w.heap.size 0*18446744073709551616+fA W w.heap.size 1+uC v'<fA wr w.heap.size 0*18446744073709551616+fA wr w.heap.size 1+uC (.slice A bs.length cap) from fun W v' m hB hS=>by
    obtain ⟨A',cap',rfl⟩:=hS.form
    have e0:fA W w.heap.size 0=q.toNat:=by unfold fA;rw [hB.c0]
    have e1:fA W w.heap.size 1=ql.toNat:=by unfold fA;rw [hB.c1]
    have e2:fA wr w.heap.size 0=h.toNat:=by unfold fA;rw [c0]
    have e3:fA wr w.heap.size 1=l.toNat:=by unfold fA;rw [c1]
    rw [e0,e1,e2,e3]
    show nv q ql+uC _<nv h l+uC _
    have ez:uC (.slice A' (UInt8.ofNat (48+D)::bs).length cap')=0:=by
     unfold uC
     simp only [Hp,Nat.succ_ne_zero,if_false]
    rw [ez]
    rcases hgo2.out.2.2 with g|⟨g1,g2⟩
    ·omega
    ·rw [g1,g2];exact HA _)
   clear hcc hnv hbl
   have hstop':(h=0→l=0→bs.length=0):=fun a b=>by
    by_cases hb0:bs= []
    ·rw [hb0];rfl
    ·exact absurd ⟨⟨a,b⟩,hb0⟩ hstop
   clear hstop
   replace hD:=aa hD
   clear hinv hnb hu hbs
   by_cases hh:h=0
   focus
    by_cases hl:l=0
    have hbz:=hstop' hh hl
    have hbz2:((bs.length:Int)==0)=true:=by rw [hbz];rfl
    have hbz3:((bs.length:Int)=0)=True:=eq_true (by omega)
    have hh':h=0:=hh
    have e1:(h==0)=true:=by rw [hh];rfl
    have e2:(l==0)=true:=by rw [hl];rfl
    have e3:(h=0)=True:=eq_true hh
    have e4:(l=0)=True:=eq_true hl
    clear hbz hstop' hh hl hh'
    rotate_right
    have e1:(h==0)=true:=by rw [hh];rfl
    have e2:(l==0)=false:=by simpa using hl
    have e3:(h=0)=True:=eq_true hh
    have e4:(l=0)=False:=eq_false hl
    clear hstop' hh hl
   rotate_right
   have e1:(h==0)=false:=by simpa using hh
   have e3:(h=0)=False:=eq_false hh
   clear hstop' hh
  all_goals
   go_wp2
   go_quiet (fail)
   go_wp2_with (go_at_call 134;refine (hD.out _).mono ?_;rintro e w2 ⟨rfl,hb2⟩;have hb3:Below wr.heap.size wr w2:=(au (Hf wr.heap.size wr) nq).trans (hb2.mono (by simp));clear hb2;obtain ⟨k0,k1,k2,k3,k4⟩:=hK.out w2 hb3;obtain ⟨v',w4,hrun,hB4,hN4,hW4⟩:=hF.out w2 hb3;clear hb3)
   go_roundw
   case rel=>exact ⟨q,ql,_,hN4,hgo2.out.1,hB4,hW4,aa hgo2.out.2.1⟩
   case measure=>exact hmeas.out _ _ 0 hN4.out hB4.out
end
def wg (l:Array Bool):Nat:=(l.toList.filter (!·)).length
theorem pJ {l:Array Bool} {i:Nat} (hi:l[i]? =some false):wg (l.setIfInBounds i true)+1=wg l:=by
 obtain ⟨l⟩:=l
 unfold wg
 simp only [List.setIfInBounds_toArray]
 simp at hi
 induction l generalizing i with
 |nil=>simp at hi
 |cons x l ih=>
  cases i with
  |zero=>simp at hi;subst hi;simp
  |succ i=>
   have:=ih (i:=i) (by simpa using hi)
   cases x<;>simp [List.filter_cons] at this ⊢ <;>omega
theorem kW {md:Region.Mode} {ops:Array Oper} {l:Array Bool} {i:Nat} (h:i∈Region.ready md ops l) (hs:l.size=ops.size):l[i]? =some false:=by
 unfold Region.ready at h
 obtain ⟨h1,h2⟩:=List.mem_filter.1 h
 have hi:i<l.size:=by rw [hs];exact HO.1 h1
 simp only [Hl,Bool.not_eq_true'] at h2
 have:=h2.1
 rw [Array.getD_eq_getD_getElem?,Array.getElem?_eq_getElem hi] at this
 rw [Array.getElem?_eq_getElem hi]
 simpa using this
theorem xP {P:Program} {md:Region.Mode} {ops:Array Oper} {Q:Exit→Act→World→Prop} (Inv:Array Bool→Act→World→Prop)
  (hstep:∀ l a w i,l.size=ops.size→i∈Region.ready md ops l→Inv l a w→wpOp P ops Q i (Inv (l.setIfInBounds i true)) a w)
  (hend:∀ l a w,l.size=ops.size→Region.ready md ops l= []→Inv l a w→Q .normal a w):
  ∀ (fuel:Nat) (l:Array Bool) (a:Act) (w:World),l.size=ops.size→wg l≤fuel→Inv l a w→wpAny P md ops Q fuel l a w:=by
 intro fuel
 induction fuel with
 |zero=>
  intro l a w hs hl hI
  have hr:Region.ready md ops l= []:=by
   rcases hq:Region.ready md ops l with _|⟨i,r⟩
   ·rfl
   ·have hi:i∈Region.ready md ops l:=by rw [hq];exact HE
    have:=pJ (kW hi hs)
    omega
  exact ⟨hr,hend l a w hs hr hI⟩
 |succ fuel ih=>
  intro l a w hs hl hI
  refine ⟨fun hr=>hend l a w hs hr hI,fun i hi=> ?_⟩
  have h1:=pJ (kW hi hs)
  exact wpOp_mono (fun a' w' h'=>ih _ a' w' (by simpa using hs) (by omega) h') (hstep l a w i hs hi hI)
section
attribute [local go_sem ↓] ip fP
theorem ED {P:Program} {ops:Array Oper} {Q:Exit→Act→World→Prop} {i:Nat} {a:Act} {w:World} {K':Act→World→Prop} (h:∀ K:Act→World→Prop,(∀ a w,K' a w→K a w)→wpOp P ops Q i K a w):wpOp P ops Q i K' a w:=h K' fun _ _ h=>h
structure C4 (x y:Value) (ra rb:Array Value) (n:Nat) (wb:World) (l0 l1 l2 l3 l4 l5 l6 l7:Bool) (s5 s6 s8 s9 s10 s11:Value) (g5 g6:Nat) (w:World):Prop where
 hb:Below wb.heap.size wb w
 i0:l0=true→s8=x
 i1:l1=true→s9=.agg ra
 i2:l2=true→s10=y
 i3:l3=true→s11=.agg rb
 i4:l4=true→s5=.pointer (some ⟨g5,0,none⟩)∧wb.heap.size≤g5∧w.heap[g5]? =some (.cells (if l6 then ra else Tryz.zeroCells178) 178 (0,0))
 i5:l5=true→s6=.pointer (some ⟨g6,0,none⟩)∧wb.heap.size≤g6∧w.heap[g6]? =some (.cells (if l7 then rb else Tryz.zeroCells178) 178 (0,0))
 i6:l4=true→l5=true→g5≠g6
 i7:l6=true→l4=true
 i8:l7=true→l5=true
theorem xQ {r:List Nat} {c:Bool} (hr:r= []) (h:(!r.isEmpty ||c)=true):c=true:=by subst hr;simpa using h
theorem bL {w:World} {g:Nat} {o:Obj} (h:w.heap[g]? =some o):g<w.heap.size:=(If.1 h).1
theorem C4.mono {x y:Value} {ra rb:Array Value} {n:Nat} {wb w w':World} {l0 l1 l2 l3 l4 l5 l6 l7:Bool} {s5 s6 s8 s9 s10 s11:Value} {g5 g6:Nat} (h:C4 x y ra rb n wb l0 l1 l2 l3 l4 l5 l6 l7 s5 s6 s8 s9 s10 s11 g5 g6 w) (hb:Below w.heap.size w w'):C4 x y ra rb n wb l0 l1 l2 l3 l4 l5 l6 l7 s5 s6 s8 s9 s10 s11 g5 g6 w':=
 { h with
  hb:=h.hb.trans (hb.mono h.hb.size)
  i4:=fun q=>⟨(h.i4 q).1,(h.i4 q).2.1,(hb.block _ (bL (h.i4 q).2.2)).trans (h.i4 q).2.2⟩
  i5:=fun q=>⟨(h.i5 q).1,(h.i5 q).2.1,(hb.block _ (bL (h.i5 q).2.2)).trans (h.i5 q).2.2⟩}
def fE (x y:Value) (n:Nat) (s5 s6 s8 s9 s10 s11:Value):Act:=
 { tmps:=#[x,y,.pointer (some ⟨n,0,none⟩),.pointer (some ⟨n+1,0,none⟩),.pointer (some ⟨n+2,0,none⟩),s5,s6,undef,s8,s9,s10,s11,undef,undef,undef,undef,undef,undef,undef,undef,undef,undef,undef,undef,undef,undef,undef,undef],defers:= []}
def EE (x y:Value) (ra rb:Array Value) (n:Nat) (wb:World) (l:Array Bool) (a:Act) (w:World):Prop:=
 ∃ l0 l1 l2 l3 l4 l5 l6 l7 s5 s6 s8 s9 s10 s11 g5 g6,l=#[l0,l1,l2,l3,l4,l5,l6,l7]∧a=fE x y n s5 s6 s8 s9 s10 s11∧C4 x y ra rb n wb l0 l1 l2 l3 l4 l5 l6 l7 s5 s6 s8 s9 s10 s11 g5 g6 w
def ss (h1 l1 h2 l2:Int) (k j:Nat):Value:=.bool ((if j<64 then bF l1 j else bF h1 (j-64))&&(decide (k≤j) ||(if j<64 then bF l2 j else bF h2 (j-64))))
def lO (h1 l1 h2 l2:Int) (k:Nat):Array Value:=((HJ 128).map (ss h1 l1 h2 l2 k)).toArray
theorem gW (h1 l1 h2 l2:Int) (k j:Nat) (hj:j<128):(lO h1 l1 h2 l2 k)[j]? =some (ss h1 l1 h2 l2 k j):=by simp [lO,hj]
theorem fV (h1 l1 h2 l2:Int) (k:Nat):(lO h1 l1 h2 l2 k).size=128:=by simp [lO]
theorem xR (h1 l1 h2 l2:Int):lO h1 l1 h2 l2 0=bi h1 l1 64:=eM (fV _ _ _ _ _) (aO _ _ _) fun j hj=>by
 rw [gW _ _ _ _ _ _ hj,bJ _ _ _ _ hj]
 by_cases h:j<64<;>simp [ss,fM,h]
 omega
theorem xS (h1 l1 h2 l2:Int) {k:Nat} (hk:k<128):(lO h1 l1 h2 l2 k).setIfInBounds k (.bool ((if k<64 then bF l1 k else bF h1 (k-64))&&(if k<64 then bF l2 k else bF h2 (k-64))))=lO h1 l1 h2 l2 (k+1):=
 eM (by simp [fV]) (fV _ _ _ _ _) fun j hj=>by
  rw [Ih,gW _ _ _ _ _ _ hj,gW _ _ _ _ _ _ hj]
  simp only [fV]
  by_cases h:k=j
  ·subst h
   simp [ss,hk,show ¬(k+1≤k) by omega]
  ·rw [if_neg h]
   have:decide (k≤j)=decide (k+1≤j):=by rw [decide_eq_decide];omega
   simp [ss,this]
theorem bC {W:World} {g k:Nat} {C:Array Value} {t:TypeId} {fr:Nat×Nat} {v:Value} (h:W.heap[g]? =some (.cells C t fr)):(W.setCell ⟨g,k,none⟩ v).heap[g]? =some (.cells (C.setIfInBounds k v) t fr):=by
 simp [World.setCell,Array.getElem?_modify,h]
theorem bn {W:World} {g:Nat} {C:Array Value} {t:TypeId} {fr:Nat×Nat} (h:W.heap[g]? =some (.cells C t fr)) (k:Nat):W.cell? ⟨g,k,none⟩=C[k]? :=by simp [World.cell?,h]
theorem fW {W:World} {g:Nat} {C:Array Value} {t:TypeId} (h:W.heap[g]? =some (.cells C t (0,0))) (k:Nat):W.frozen? ⟨g,k,none⟩=false:=by simp [World.frozen?,h]
theorem cg {W:World} {g b k:Nat} {v:Value} (h:b≠g):(W.setCell ⟨g,k,none⟩ v).heap[b]? =W.heap[b]? :=by
 simp only [World.setCell,Array.getElem?_modify]
 rw [if_neg (Ne.symm h)]
theorem su {x y:Int} (hx:aI x) (hy:aI y):∃ X Y:Nat,x=X∧y=Y∧aJ x y=((X&&&Y:Nat):Int):=by
 obtain ⟨a0,a1⟩:=hx
 obtain ⟨b0,b1⟩:=hy
 obtain ⟨X,rfl⟩:=Hv a0
 obtain ⟨Y,rfl⟩:=Hv b0
 exact ⟨X,Y,rfl,rfl,by rw [aJ,u64_and_nat X Y (by omega) (by omega)]⟩
theorem sy {x y:Int} (hx:aI x) (hy:aI y) (j:Nat):bF (aJ x y) j=(bF x j&&bF y j):=by
 obtain ⟨X,Y,rfl,rfl,h⟩:=su hx hy
 rw [h,e9,e9,e9,Nat.testBit_and]
theorem me {x y:Int} (hx:aI x) (hy:aI y):aI (aJ x y):=by
 obtain ⟨X,Y,rfl,rfl,h⟩:=su hx hy
 rw [h]
 have:=Nat.and_le_left (n:=X) (m:=Y)
 have:=hx.2
 exact ⟨by omega,by omega⟩
theorem AX {h1 l1 h2 l2:Int} (u1:aI h1) (u2:aI l1) (u3:aI h2) (u4:aI l2):lO h1 l1 h2 l2 128=bi (aJ h1 h2) (aJ l1 l2) 64:=eM (fV _ _ _ _ _) (aO _ _ _) fun j hj=>by
 rw [gW _ _ _ _ _ _ hj,bJ _ _ _ _ hj]
 unfold ss fM
 rw [sy u2 u4,sy u1 u3]
 by_cases h:j<64
 ·simp [h,show ¬(128≤j) by omega]
 ·simp [h,show ¬(128≤j) by omega,show j<64+64 by omega]
theorem xT (h1 l1 h2 l2:Int) (w:World) (u1:aI h1) (u2:aI l1) (u3:aI h2) (u4:aI l2):Calls prog 165 #[.agg #[.int .u64 h1,.int .u64 l1],.agg #[.int .u64 h2,.int .u64 l2]] w fun e w'=>e=.returned (.agg #[.int .u64 (aJ h1 h2),.int .u64 (aJ l1 l2)])∧Below w.heap.size w w':=by
 have hN:=aa (fun W=>kj (aJ h1 h2) (aJ l1 l2) W (me u1 u3) (me u2 u4))
 have hend:=aa (AX u1 u2 u3 u4)
 have hBa:=aa (fun W=>eZ h1 l1 W u1 u2)
 have hBb:=aa (fun W=>eZ h2 l2 W u3 u4)
 obtain ⟨wa,hwa,hsa,hba,hca,-⟩:=ak w #[.int .u64 h1,.int .u64 l1] 61
 obtain ⟨wq,hwq,hsq,hbq,hcq,-⟩:=ak wa #[.int .u64 h2,.int .u64 l2] 61
 obtain ⟨wb,hwb,hsb,hbb,hcb,-⟩:=ak wq #[.int .u64 0,.int .u64 0] 61
 have y0:wb.cell? ⟨w.heap.size,0,none⟩=some (.int .u64 h1):=(bH hbb w.heap.size 0 (by omega)).trans ((bH hbq w.heap.size 0 (by omega)).trans (hca 0))
 have y1:wb.cell? ⟨w.heap.size,1,none⟩=some (.int .u64 l1):=(bH hbb w.heap.size 1 (by omega)).trans ((bH hbq w.heap.size 1 (by omega)).trans (hca 1))
 rw [hsa] at hcq
 have y2:wb.cell? ⟨w.heap.size+1,0,none⟩=some (.int .u64 h2):=(bH hbb (w.heap.size+1) 0 (by omega)).trans (hcq 0)
 have y3:wb.cell? ⟨w.heap.size+1,1,none⟩=some (.int .u64 l2):=(bH hbb (w.heap.size+1) 1 (by omega)).trans (hcq 1)
 have hg4:wb.heap[w.heap.size+2]? =some (.cells #[.int .u64 0,.int .u64 0] 61 (0,0)):=by rw [←hwb,show w.heap.size+2=wq.heap.size by omega];exact heap_alloc_last wq _
 have hbw:=aa ((hba.trans (hbq.mono (by omega))).trans (hbb.mono (by omega)))
 have hzb:w.heap.size+2<wb.heap.size:=by omega
 have hzb1:w.heap.size+1<wb.heap.size:=by omega
 have hzb0:w.heap.size<wb.heap.size:=by omega
 replace hg4:=aa hg4
 clear hca hcq hcb hba hbq hbb
 go_enter func165,ntmps165
 go_upto_region 1 with (fail)
 go_cut [5,6,8,9,10,11] (fun s5 s6 s8 s9 s10 s11 wx=>∃ g5 g6:Nat,s5=.pointer (some ⟨g5,0,none⟩)∧s6=.pointer (some ⟨g6,0,none⟩)∧Hid (wb.heap.size≤g5∧g5≠g6)∧Hid (wx.heap[g5]? =some (.cells (bi h1 l1 64) 178 (0,0)))∧Hid (wx.heap[g6]? =some (.cells (bi h2 l2 64) 178 (0,0)))∧Hid (Below wb.heap.size wb wx))
 case first=>
  refine wp_region_any (by kernel_rfl) ?_
  refine xP (EE (.agg #[.int .u64 h1,.int .u64 l1]) (.agg #[.int .u64 h2,.int .u64 l2]) (bi h1 l1 64) (bi h2 l2 64) w.heap.size wb) ?_ ?_ _ _ _ _ (by simp) (by decide) ?_
  ·intro l a w1 i hs hi hI
   obtain ⟨l0,l1',l2',l3,l4,l5,l6,l7,s5,s6,s8,s9,s10,s11,g5,g6,rfl,rfl,hI⟩:=hI
   have hw0:((i==0) ||((i==1)&&l0) ||(i==2) ||((i==3)&&l1'&&l2') ||((i==4)&& !l4) ||((i==5)&& !l5) ||((i==6)&&l4&&l1'&& !l6) ||((i==7)&&l5&&l3&& !l7))=true:=by
    refine (Hx (p:=fun i=>((i==0) ||((i==1)&&l0) ||(i==2) ||((i==3)&&l1'&&l2') ||((i==4)&& !l4) ||((i==5)&& !l5) ||((i==6)&&l4&&l1'&& !l6) ||((i==7)&&l5&&l3&& !l7)))).1 ?_ i hi
    clear hs hI hi
    revert l0 l1' l2' l3 l4 l5 l6 l7
    decide+kernel
   have hw:(i=0)∨(i=1∧l0=true)∨(i=2)∨(i=3∧l1'=true∧l2'=true)∨(i=4∧l4=false)∨(i=5∧l5=false)∨(i=6∧l4=true∧l1'=true∧l6=false)∨(i=7∧l5=true∧l3=true∧l7=false):=by
    simpa [or_assoc,and_assoc] using hw0
   clear hw0
   clear hi hs
   have kb:=ah hI.hb
   have hzw:=hI.hb.size
   refine ED fun K hK=> ?_
   replace hK:=aa hK
   replace hI:=aa hI
   rcases hw with rfl|⟨rfl,q⟩|rfl|⟨rfl,q,q'⟩|⟨rfl,q⟩|⟨rfl,q⟩|⟨rfl,q,q',q''⟩|⟨rfl,q,q',q''⟩
   ·skip
    unfold wpOp fE
    simp only [HH,HK,HM]
    rw [if_pos (by rfl)]
    refine Or.inl ?_
    go_wp2
    exact hK.out _ _ ⟨true,l1',l2',l3,l4,l5,l6,l7,s5,s6,_,s9,s10,s11,g5,g6,rfl,rfl, { hI.out with i0:=fun _=>rfl}⟩
   ·obtain rfl:=hI.out.i0 q
    unfold wpOp fE
    simp only [HH,HK,HM]
    rw [if_pos (by rfl)]
    refine Or.inl ?_
    go_wp2_with fail
    refine (hBa.out _).mono ?_
    rintro e w2 ⟨rfl,hb2⟩
    exact hK.out _ _ ⟨l0,true,l2',l3,l4,l5,l6,l7,s5,s6,_,_,s10,s11,g5,g6,rfl,rfl, { hI.out.mono hb2 with i1:=fun _=>rfl}⟩
   ·skip
    unfold wpOp fE
    simp only [HH,HK,HM]
    rw [if_pos (by rfl)]
    refine Or.inl ?_
    go_wp2
    exact hK.out _ _ ⟨l0,l1',true,l3,l4,l5,l6,l7,s5,s6,s8,s9,_,s11,g5,g6,rfl,rfl, { hI.out with i2:=fun _=>rfl}⟩
   ·obtain rfl:=hI.out.i2 q'
    unfold wpOp fE
    simp only [HH,HK,HM]
    rw [if_pos (by rfl)]
    refine Or.inl ?_
    go_wp2_with fail
    refine (hBb.out _).mono ?_
    rintro e w2 ⟨rfl,hb2⟩
    exact hK.out _ _ ⟨l0,l1',l2',true,l4,l5,l6,l7,s5,s6,s8,s9,_,_,g5,g6,rfl,rfl, { hI.out.mono hb2 with i3:=fun _=>rfl}⟩
   ·skip
    unfold wpOp fE
    simp only [HH,HK,HM]
    rw [if_pos (by rfl)]
    refine Or.inl ?_
    go_wp2
    have hb2:Below w1.heap.size w1 (w1.alloc (.cells Tryz.zeroCells178 178)):=(Hf _ _).alloc (Hh _) _
    have h6:l6=false:=by
     cases h:l6 with
     |false=>
      rfl
     |true=>
      have:=hI.out.i7 h;rw [q] at this;cases this
    refine hK.out _ _ ⟨l0,l1',l2',l3,true,l5,l6,l7,_,s6,s8,s9,s10,s11,w1.heap.size,g6,rfl,rfl, { hI.out.mono hb2 with i4:=fun _=>⟨rfl,hzw,?_⟩,i6:=fun _ h5=> ?_,i7:=fun _=>rfl}⟩
    ·rw [h6];exact heap_alloc_last w1 _
    ·have:=bL (hI.out.i5 h5).2.2;omega
   ·skip
    unfold wpOp fE
    simp only [HH,HK,HM]
    rw [if_pos (by rfl)]
    refine Or.inl ?_
    go_wp2
    have hb2:Below w1.heap.size w1 (w1.alloc (.cells Tryz.zeroCells178 178)):=(Hf _ _).alloc (Hh _) _
    have h7:l7=false:=by
     cases h:l7 with
     |false=>
      rfl
     |true=>
      have:=hI.out.i8 h;rw [q] at this;cases this
    refine hK.out _ _ ⟨l0,l1',l2',l3,l4,true,l6,l7,s5,_,s8,s9,s10,s11,g5,w1.heap.size,rfl,rfl, { hI.out.mono hb2 with i5:=fun _=>⟨rfl,hzw,?_⟩,i6:=fun h4 _=> ?_,i8:=fun _=>rfl}⟩
    ·rw [h7];exact heap_alloc_last w1 _
    ·have:=bL (hI.out.i4 h4).2.2;omega
   ·obtain ⟨rfl,hg,hh⟩:=hI.out.i4 q
    obtain rfl:=hI.out.i1 q'
    rw [q''] at hh
    have hst:=dQ hh rfl (aO _ _ _) (fN h1 l1 64)
    have hat:=kg (C':=bi h1 l1 64) hh
    unfold wpOp fE
    simp only [HH,HK,HM]
    rw [if_pos (by rfl)]
    refine Or.inl ?_
    go_wp2
    refine hK.out _ _ ⟨l0,l1',l2',l3,l4,l5,true,l7,_,s6,s8,_,s10,s11,g5,g6,rfl,rfl, { hI.out with hb:=below_setRow hI.out.hb hg _,i4:=fun _=>⟨rfl,hg,hat⟩,i5:=fun h5=>⟨(hI.out.i5 h5).1,(hI.out.i5 h5).2.1,?_⟩,i7:=fun _=>q}⟩
    rw [mU (Ne.symm (hI.out.i6 q h5))]
    exact (hI.out.i5 h5).2.2
   ·obtain ⟨rfl,hg,hh⟩:=hI.out.i5 q
    obtain rfl:=hI.out.i3 q'
    rw [q''] at hh
    have hst:=dQ hh rfl (aO _ _ _) (fN h2 l2 64)
    have hat:=kg (C':=bi h2 l2 64) hh
    unfold wpOp fE
    simp only [HH,HK,HM]
    rw [if_pos (by rfl)]
    refine Or.inl ?_
    go_wp2
    refine hK.out _ _ ⟨l0,l1',l2',l3,l4,l5,l6,true,s5,_,s8,s9,s10,_,g5,g6,rfl,rfl, { hI.out with hb:=below_setRow hI.out.hb hg _,i5:=fun _=>⟨rfl,hg,hat⟩,i4:=fun h4=>⟨(hI.out.i4 h4).1,(hI.out.i4 h4).2.1,?_⟩,i8:=fun _=>q}⟩
    rw [mU (hI.out.i6 h4 q)]
    exact (hI.out.i4 h4).2.2
  ·intro l a w1 hs hr hI
   obtain ⟨l0,l1',l2',l3,l4,l5,l6,l7,s5,s6,s8,s9,s10,s11,g5,g6,rfl,rfl,hI⟩:=hI
   have hw:l4=true∧l5=true∧l6=true∧l7=true:=by
    have hq:(l4&&l5&&l6&&l7)=true:=by
     refine xQ hr ?_
     clear hs hI hr
     revert l0 l1' l2' l3 l4 l5 l6 l7
     decide+kernel
    simpa [and_assoc] using hq
   obtain ⟨rfl,rfl,rfl,rfl⟩:=hw
   obtain ⟨rfl,hg5,hh5⟩:=hI.i4 rfl
   obtain ⟨rfl,hg6,hh6⟩:=hI.i5 rfl
   simp only [fE]
   go_wp2
   go_meet
   exact ⟨g5,g6,rfl,rfl,aa ⟨hg5,hI.i6 rfl rfl⟩,aa hh5,aa hh6,aa hI.hb⟩
  ·exact ⟨false,false,false,false,false,false,false,false,undef,undef,undef,undef,undef,undef,0,1,rfl,rfl,⟨⟨rfl,rfl,rfl,Hh _,fun _ _=>rfl⟩,nofun,nofun,nofun,nofun,nofun,nofun,nofun,nofun,nofun⟩⟩
 case rest=>
  obtain ⟨g5,g6,rfl,rfl,hgg,hg5,hg6,hbx⟩:=hcut
  rw [←xR h1 l1 h2 l2] at hg5
  have hsz6:=aO h2 l2 64
  clear hBa hBb y0 y1 y2 y3 hwa hwb hwq
  go_wp2
  go_loopw [7] (fun i wr=>∃ k:Nat,k≤128∧i=.int .i64 k∧Hid (wr.heap[g5]? =some (.cells (lO h1 l1 h2 l2 k) 178 (0,0)))∧Hid (wr.heap[g6]? =some (.cells (bi h2 l2 64) 178 (0,0)))∧Hid (Below wb.heap.size wb wr)) (fun i _=>128-(intOf i).toNat)
  case atStart=>exact ⟨0,Hm _,rfl,hg5,hg6,hbx⟩
  case round=>
   obtain ⟨k,hk,rfl,hG5,hG6,hB⟩:=hrel
   have lt5:=bL hG5.out
   have lt6:=bL hG6.out
   by_cases hlt:k<128
   focus
    have hltz:(k:Int)<128:=by omega
    have hsucc:=xS h1 l1 h2 l2 hlt
    have d5:=(bn hG5.out k).trans (gW h1 l1 h2 l2 k k hlt)
    have d6:=(bn hG6.out k).trans (bJ h2 l2 64 k hlt)
    have e5:ss h1 l1 h2 l2 k k=.bool (if k<64 then bF l1 k else bF h1 (k-64)):=by simp [ss]
    have e6:fM h2 l2 64 k=.bool (if k<64 then bF l2 k else bF h2 (k-64)):=by
     by_cases h:k<64<;>simp [fM,h]
     omega
    rw [e5] at d5
    rw [e6] at d6
    have ff:=fW hG5.out k
    generalize (if k<64 then bF l1 k else bF h1 (k-64))=b1 at hsucc d5
    generalize (if k<64 then bF l2 k else bF h2 (k-64))=b2 at hsucc d6
    have hnx:=aa (fun (v:Value) (g:(lO h1 l1 h2 l2 k).setIfInBounds k v=lO h1 l1 h2 l2 (k+1))=>show (wr.setCell ⟨g5,k,none⟩ v).heap[g5]? =some (.cells (lO h1 l1 h2 l2 (k+1)) 178 (0,0)) from by rw [←g];exact bC hG5.out)
    have hfa:=aa (fun (v:Value)=>(cg (k:=k) (v:=v) (Ne.symm hgg.out.2)).trans hG6.out)
    have hbl:=aa (fun (v:Value)=>hB.out.setCell (p:=⟨g5,k,none⟩) hgg.out.1 v)
    replace hsucc:=aa hsucc
    clear e5 e6
    cases b1
    rw [Hg] at hsucc
    rotate_right
    rw [Hk] at hsucc
   rotate_right
   focus
    obtain rfl:k=128:=by omega
    rw [hend.out] at hG5
    have hs1:=aO (aJ h1 h2) (aJ l1 l2) 64
    have hld:=iq hG5.out hs1
    have hgW:=aa ((hB.out.block _ (by omega)).trans hg4.out)
    have hzW:=hB.out.size
    have hBW:=aa (hbw.out.trans (hB.out.mono (by omega)))
    clear hs1 hg5 hg6 hbx hG6 hend
    go_wp2_with fail
    refine (hN.out _).mono ?_
    rintro e w2 ⟨rfl,hb2⟩
    have hg2:w2.heap[w.heap.size+2]? =some (.cells #[.int .u64 0,.int .u64 0] 61 (0,0)):=(hb2.block _ (by omega)).trans hgW.out
    have hB2:=aa (hBW.out.trans (hb2.mono (by omega)))
    have k0:w2.cell? ⟨w.heap.size+2,0,none⟩=some (.int .u64 0):=by simp [World.cell?,hg2]
    have k1:w2.cell? ⟨w.heap.size+2,1,none⟩=some (.int .u64 0):=by simp [World.cell?,hg2]
    have f0:w2.frozen? ⟨w.heap.size+2,0,none⟩=false:=by simp [World.frozen?,hg2]
    have f1:w2.frozen? ⟨w.heap.size+2,1,none⟩=false:=by simp [World.frozen?,hg2]
    clear hg2 hld
    go_wp2
    exact bodyPost_ret (v:=.agg #[.int .u64 (aJ h1 h2),.int .u64 (aJ l1 l2)]) (by simp [results,results165,go_sem,k0,k1]) rfl ⟨rfl,(hB2.out.setCell (by show w.heap.size≤w.heap.size+2;omega) _).setCell (by show w.heap.size≤w.heap.size+2;omega) _⟩
   all_goals
    go_wp2
    go_roundw
    case rel=>exact ⟨k+1,by omega,by go_num,aa (hnx.out _ hsucc.out),aa (hfa.out _),aa (hbl.out _)⟩
    case measure=>simp [intOf];omega
end
section
open Go.RowKit Go.Lib
def FQ (d:Nat):Value:=.int .u8 (d:Int)
def zp (w:World) (base:Nat) (v:Value) (l:List Nat):Prop:=w.ownsRow base 5 1 v l.length (l.map FQ)
theorem zp.bs {w:World} {base:Nat} {v:Value} {l:List Nat} (hl:∀ d∈l,d<256):zp w base v l↔lM w base v (l.map UInt8.ofNat):=by
 unfold zp lM
 rw [Hz,List.map_map]
 have:l.map FQ=l.map (DX∘UInt8.ofNat):=List.map_congr_left fun d hd=>by
  show Value.int .u8 (d:Int)=Value.int .u8 (((UInt8.ofNat d).toNat:Nat):Int)
  rw [show (UInt8.ofNat d).toNat=d from by have:=hl d hd;simp;omega]
 rw [this]
theorem zp.form {w:World} {base:Nat} {v:Value} {l:List Nat} (h:zp w base v l) (h0:l≠ []):∃ g cap,v=.slice (some ⟨g,0,none⟩) l.length cap∧base≤g∧g<w.heap.size:=by
 rcases h.2 with ⟨-,hz⟩|⟨g,cap,cur,rfl,hb,hh,-⟩
 ·exact absurd (H8 hz) h0
 ·exact ⟨g,cap,rfl,hb,bL hh⟩
structure qS (w W:World) (g:Nat) (C:Array Value) (v:Value) (l:List Nat):Prop where
 bel:Below w.heap.size w W
 le:w.heap.size≤g
 bx:W.heap[g]? =some (.cells C 178 (0,0))
 row:zp W (g+1) v l
theorem qS.lt {w W:World} {g:Nat} {C:Array Value} {v:Value} {l:List Nat} (h:qS w W g C v l):g<W.heap.size:=bL h.bx
theorem qS.bit {w W:World} {g:Nat} {C:Array Value} {v:Value} {l:List Nat} (h:qS w W g C v l) (i:Nat):W.cell? ⟨g,i,none⟩=C[i]? :=bn h.bx i
theorem qS.put {w W:World} {g q n cap:Nat} {C:Array Value} {l:List Nat} (h:qS w W g C (.slice (some ⟨q,0,none⟩) n cap) l) (hn:n=l.length) (hq:g+1≤q) (j d:Nat):
  qS w (W.setCell ⟨q,j,none⟩ (.int .u8 (d:Int))) g C (.slice (some ⟨q,0,none⟩) n cap) (l.set j d):=by
 subst hn
 refine ⟨h.bel.setCell (p:=⟨q,j,none⟩) (by have:=h.le;show w.heap.size≤q;omega) _,h.le,?_,?_⟩
 ·rw [cg (by omega)];exact h.bx
 ·have:=(World.ownsRow.stored h.row j (.int .u8 (d:Int))).1
  unfold zp
  rw [List.length_set,List.map_set]
  exact this
theorem qS.dig {w W:World} {g q n cap:Nat} {C:Array Value} {l:List Nat} (h:qS w W g C (.slice (some ⟨q,0,none⟩) n cap) l) (hn:n=l.length) {j d:Nat} (hj:l[j]? =some d):W.cell? ⟨q,j,none⟩=some (.int .u8 (d:Int))∧W.frozen? ⟨q,j,none⟩=false:=by
 subst hn
 have hjl:=(HV.1 hj).1
 refine ⟨?_,World.ownsRow.frozenAt h.row j⟩
 rw [World.ownsRow.cellAt h.row j (by omega),List.getElem?_map,hj];rfl
theorem qS.ahead {w W:World} {g:Nat} {C:Array Value} {v:Value} {l:List Nat} (h:qS w W g C v l) (c:Nat) (hc:c<256) (hl:∀ d∈l,d<256) (hz:l.length≤dI):
  ∃ v' w',(eO #[73,73] 73 #[.slice (some ⟨W.heap.size,0,none⟩) 1 1,v]).run prog (W.alloc (.cells #[.int .u8 (c:Int)] 5))=.ok v' w'∧qS w w' g C v' (c::l):=by
 obtain ⟨v',w',h1,h2,h3⟩:=sr (UInt8.ofNat c) ((zp.bs hl).1 h.row) h.lt (by rw [Hz];exact hz)
 rw [show (((UInt8.ofNat c).toNat:Nat):Int)=(c:Int) from by rw [show (UInt8.ofNat c).toNat=c from by simp;omega]] at h1
 refine ⟨v',w',h1,h.bel.trans (h3.mono (by have:=h.le;omega)),h.le,(h3.block g (by omega)).trans h.bx,(zp.bs (fun d hd=> ?_)).2 h2⟩
 rcases HD.1 hd with rfl|hd
 ·exact hc
 ·exact hl d hd
theorem qS.str {w W:World} {g:Nat} {C:Array Value} {v:Value} {l:List Nat} (h:qS w W g C v (l.map (48+ ·))) (h0:l≠ []) (hl:∀ d∈l,d<10):(convert 73 9 v).run prog W=.ok (.string ⟨(l.map fun d=>UInt8.ofNat (48+d)).toArray⟩) W:=by
 have h1:=(zp.bs (l:=l.map (48+ ·)) (fun d hd=>by
  obtain ⟨x,hx,rfl⟩:=HN.1 hd
  have:=hl x hx
  omega)).1 h.row
 rw [List.map_map] at h1
 exact qR h1 (by simpa using h0)
end
section
open Go.RowKit Go.Lib
attribute [local go_sem ↓] ip fP cU
theorem kG (hi lo:Int) (w:World) (h1:aI hi) (h2:aI lo):Calls prog 84 #[.agg #[.int .u64 hi,.int .u64 lo]] w fun e w'=>e=.returned (.string ⟨(decDigits (nv hi lo)).toArray⟩)∧Below w.heap.size w w':=by
 have hB:=aa (fun W=>eZ hi lo W h1 h2)
 have hbit:=aa (fun j (hj:j<128)=>AU hi lo hj)
 have hdiv:=aa (fun j=>uA h1 h2 j)
 have hN:=pi h1 h2
 have hs:=aO hi lo 64
 have ho:=fN hi lo 64
 obtain ⟨wa,hwa,hsa,hba,hca,-⟩:=ak w #[.int .u64 hi,.int .u64 lo] 61
 have y0:wa.cell? ⟨w.heap.size,0,none⟩=some (.int .u64 hi):=hca 0
 have y1:wa.cell? ⟨w.heap.size,1,none⟩=some (.int .u64 lo):=hca 1
 have hbw:=aa hba
 have hz:=aa (show w.heap.size≤wa.heap.size by omega)
 replace hsa:=aa hsa
 clear hba hca h1 h2
 generalize nv hi lo=N at hdiv hN ⊢
 generalize (bi hi lo 64)=C at hB hbit hs ho
 generalize hnb:nB hi lo=R at hbit hdiv
 clear hnb
 replace hN:=aa hN
 go_enter func84,ntmps84
 go_upto_region 1 with fail
 go_upto_region 3 with (go_at_call 137;refine (hB.out _).mono ?_;rintro e w1 ⟨rfl,hb1⟩;have hst:(kf (.pointer (some ⟨w1.heap.size,0,none⟩)) (.agg C)).run prog (w1.alloc (.cells Tryz.zeroCells178 178))=.ok () (w1.alloc (.cells C 178)):=(by rw [dQ (heap_alloc_last w1 _) (by rfl) hs ho,World.setRow_alloc_new]))
 have hS0:=aa (show qS w ((w1.alloc (.cells C 178)).alloc (.cells #[.int .u8 0] 5)) w1.heap.size C (.slice (some ⟨w1.heap.size+1,0,none⟩) 1 1) [0] from by
  refine ⟨((hbw.out.trans (hb1.mono hz.out)).alloc (by have:=hz.out;have:=hb1.size;omega) _).alloc (by rw [World.size_alloc];have:=hz.out;have:=hb1.size;omega) _,Hj hz.out hb1.size,?_,?_⟩
  ·rw [Below.heap_alloc _ _ _ (by rw [World.size_alloc];omega)]
   exact heap_alloc_last w1 _
  ·have:=World.ownsRow_lit (base:=w1.heap.size+1) (size:=1) (e:=5) (w1.alloc (.cells C 178)) #[.int .u8 0] 1 (by simp) (by decide) rfl
   simpa [zp,FQ] using this)
 generalize ((w1.alloc (.cells C 178)).alloc (.cells #[.int .u8 0] 5))=w3 at hS0 ⊢
 generalize w1.heap.size=g at*
 clear hb1 hst hB hbw hz hsa
 go_wp2
 go_loopw [4,5,6,7,8] (fun v4 v5 _ _ _ wr=>∃ (k:Nat) (l:List Nat),v5=.int .i64 ((k:Int)-1)∧k≤128∧Hid (qS w wr g C v4 l)∧Hid (ui l∧jX l=N / 2 ^ k)) (fun _ v5 _ _ _ _=>(RowKit.intOf v5+1).toNat)
 case atStart=>exact ⟨128,[0],rfl,by omega,hS0,aa ⟨⟨by simp,by simp,.inl rfl⟩,by rw [Nat.div_eq_of_lt hN.out];rfl⟩⟩
 case round=>
  clear hS0
  obtain ⟨k,l,rfl,hk,hS,hl⟩:=hrel
  have hlen:=EB hl.out.1 (by rw [hl.out.2];exact Nat.lt_of_le_of_lt (Nat.div_le_self _ _) hN.out)
  have hlz:(0:Int)<(l.length:Int):=by have:=H3.2 hl.out.1.1;omega
  obtain ⟨q,cap,rfl,hq1,hq2⟩:=zp.form hS.out.row hl.out.1.1
  cases k with
  |zero=>
   have dk:decide ((0:Int)≤((0:Nat):Int)-1)=false:=by decide
   have hd10:=hl.out.1.2.1
   have hdec:l.map (fun d=>UInt8.ofNat (48+d))=decDigits N:=by
    rw [uj l.length l rfl hl.out.1,hl.out.2];simp
   have hl0:=hl.out.1.1
   replace hdec:=aa hdec
   clear hbit hdiv hN hl
   go_wp2
   go_loopw [9] (fun v9 wx=>∃ (m:Nat),v9=.int .i64 (m:Int)∧m≤l.length∧Hid (qS w wx g C (.slice (some ⟨q,0,none⟩) l.length cap) ((l.take m).map (48+ ·)++l.drop m))) (fun v9 _=>l.length-(RowKit.intOf v9).toNat)
   case atStart=>exact ⟨0,rfl,Hm _,by simpa using hS⟩
   case round=>
    clear hS
    obtain ⟨m,rfl,hm,hS⟩:=hrel
    have hlen2:l.length=((l.take m).map (48+ ·)++l.drop m).length:=by simp;omega
    by_cases hml:m<l.length
    ·have hm0:(0:Int)≤(m:Int):=by omega
     have hm1:(m:Int)<(l.length:Int):=by omega
     have dm:decide ((m:Int)<(l.length:Int))=true:=decide_eq_true hm1
     obtain ⟨p0,p1⟩:=hS.out.dig (j:=m) (d:=l[m]) hlen2 (by rw [List.getElem?_append_right (by rw [Hz,HF];omega),Hz,HF,Nat.min_eq_left hm,Nat.sub_self,H4 hml];rfl)
     have hset:=hS.out.put hlen2 hq1 m (48+l[m])
     have hsl:((l.take m).map (48+ ·)++l.drop m).set m (48+l[m])=(l.take (m+1)).map (48+ ·)++l.drop (m+1):=by
      rw [HR hml,List.map_append,HP,List.set_append_right _ _ (by rw [Hz,HF];omega),Hz,HF,Nat.min_eq_left hm,Nat.sub_self,H4 hml]
      rfl
     rw [hsl] at hset
     clear hsl
     have hlp:=hd10 l[m] (Ho hml)
     have hq3:=hS.out.lt
     rw [show (((48+l[m]:Nat)):Int)=(l[m]:Int)+48 from by omega] at hset
     have e1:IntKind.u8.wrap ((l[m]:Int)+48)=(l[m]:Int)+48:=by rw [IntKind.wrap_u8];omega
     replace hset:=aa hset
     generalize l[m]=lp at*
     clear hS hlen2 hd10
     go_wp2
     go_roundw
     case rel=>exact ⟨m+1,by go_num,hml,hset⟩
     case measure=>simp [RowKit.intOf];omega
    ·obtain rfl:m=l.length:=by omega
     have dm:decide ((l.length:Int)<(l.length:Int))=false:=decide_eq_false (by omega)
     rw [List.drop_length,H2,HZ] at hS
     have hstr:=hS.out.str hl0 hd10
     rw [hdec.out] at hstr
     have hbel:=aa hS.out.bel
     clear hS hlen2 hd10 hdec
     go_wp2
     go_ret
     exact ⟨rfl,hbel.out⟩
  |succ j=>
   have dk:decide ((0:Int)≤((j+1:Nat):Int)-1)=true:=decide_eq_true (by omega)
   have ej:((j+1:Nat):Int)-1=(j:Int):=by omega
   rw [ej] at dk ⊢
   clear ej
   have hj0:(0:Int)≤(j:Int):=by omega
   have hj1:(j:Int)<128:=by omega
   have hc:=(hS.out.bit j).trans (hbit.out j (by omega))
   have hgl:=hS.out.lt
   cases hRj:R j with
   |true=>
    have hdv:N / 2 ^ j=2*(N / 2 ^ (j+1))+1:=by rw [hdiv.out j,hRj];rfl
    rw [hRj] at hc
    have hok:=aa (show ui (iL l 1)∧jX (iL l 1)=N / 2 ^ j from ⟨sh hl.out.1 (by omega),by rw [pG,hl.out.2,hdv]⟩)
    have hd10:=hl.out.1.2.1
    replace hdv:=aa hdv
    go_wp2
    go_loopw [6,7,8] (fun v6 v7 _ wx=>∃ (m:Nat),v7=.int .i64 ((m:Int)-1)∧m≤l.length∧v6=.int .u8 ((bu (l.drop m) 1).2:Int)∧Hid (qS w wx g C (.slice (some ⟨q,0,none⟩) l.length cap) (kE l 1 m))) (fun _ v7 _ _=>(RowKit.intOf v7+1).toNat)
    case atStart=>exact ⟨l.length,rfl,Hh _,by rw [List.drop_length];rfl,by rw [sj];exact hS⟩
    case round=>
     obtain ⟨m,rfl,hm,rfl,hS2⟩:=hrel
     cases m with
     |zero=>
      have dk2:decide ((0:Int)≤((0:Nat):Int)-1)=false:=by decide
      rw [HX]
      rw [pH] at hS2
      obtain ⟨k1,k2⟩:=dZ l 1 (by omega) hd10
      have hstep:iL l 1=if (bu l 1).2=0 then (bu l 1).1 else (bu l 1).2::(bu l 1).1:=rfl
      have hdl:=en l 1
      generalize (bu l 1).2=cy at*
      generalize (bu l 1).1=dl at*
      clear hS hc
      by_cases hcy:cy=0
      ·rw [if_pos hcy] at hstep
       have dcy:decide ((0:Int)<(cy:Int))=false:=decide_eq_false (by omega)
       rw [hstep] at hok
       clear hstep
       go_wp2
       go_roundw
       case rel=>exact ⟨j,dl,rfl,by omega,hS2,hok⟩
       case measure=>simp [RowKit.intOf]
      ·rw [if_neg hcy] at hstep
       have dcy:decide ((0:Int)<(cy:Int))=true:=decide_eq_true (by omega)
       rw [hstep] at hok
       obtain ⟨v',w',hrun,hS3⟩:=hS2.out.ahead cy (by omega) (fun d hd=>by have:=k2 d hd;omega) (by rw [hdl];unfold dI;omega)
       replace hS3:=aa hS3
       clear hstep
       go_wp2
       go_roundw
       case rel=>exact ⟨j,cy::dl,rfl,by omega,hS3,hok⟩
       case measure=>simp [RowKit.intOf]
     |succ p=>
      have dk2:decide ((0:Int)≤((p+1:Nat):Int)-1)=true:=decide_eq_true (by omega)
      have ep:((p+1:Nat):Int)-1=(p:Int):=by omega
      rw [ep] at dk2 ⊢
      clear ep
      have hpl:p<l.length:=hm
      have hp0:(0:Int)≤(p:Int):=by omega
      have hp1:(p:Int)<(l.length:Int):=by omega
      obtain ⟨p0,p1⟩:=hS2.out.dig (jA l 1 (p+1)).symm (we (c:=1) hpl)
      have hdd:=kD (c:=1) hpl
      have hset:=hS2.out.put (jA l 1 (p+1)).symm hq1 p ((2*l[p]+(bu (l.drop (p+1)) 1).2) % 10)
      rw [si hpl] at hset
      have hcd:=(dZ (l.drop (p+1)) 1 (by omega) (fun d hd=>hd10 d (List.mem_of_mem_drop hd))).1
      have hlp:=hd10 l[p] (Ho hpl)
      have hnx:(bu (l.drop p) 1).2=(2*l[p]+(bu (l.drop (p+1)) 1).2) / 10:=by rw [hdd]
      have hq3:=hS2.out.lt
      replace hset:=aa hset
      replace hnx:=aa hnx
      clear hdd hS hc hS2
      generalize (bu (l.drop (p+1)) 1).2=cy at*
      generalize l[p]=lp at*
      have e1:IntKind.u8.wrap (2*(lp:Int))=2*(lp:Int):=by rw [IntKind.wrap_u8];omega
      have e2:IntKind.u8.wrap (2*(lp:Int)+(cy:Int))=2*(lp:Int)+(cy:Int):=by rw [IntKind.wrap_u8];omega
      go_wp2
      go_roundw
      case rel=>
       have hs2:=hset.out
       rw [show (((2*lp+cy) % 10:Nat):Int)=(2*(lp:Int)+(cy:Int)) % 10 from by omega] at hs2
       exact ⟨p,rfl,by omega,by rw [hnx.out,show (((2*lp+cy) / 10:Nat):Int)=(2*(lp:Int)+(cy:Int)) / 10 from by omega],aa hs2⟩
      case measure=>simp [RowKit.intOf]
   |false=>
    have hdv:N / 2 ^ j=2*(N / 2 ^ (j+1))+0:=by rw [hdiv.out j,hRj];rfl
    rw [hRj] at hc
    have hok:=aa (show ui (iL l 0)∧jX (iL l 0)=N / 2 ^ j from ⟨sh hl.out.1 (by omega),by rw [pG,hl.out.2,hdv]⟩)
    have hd10:=hl.out.1.2.1
    replace hdv:=aa hdv
    go_wp2
    go_loopw [6,7,8] (fun v6 v7 _ wx=>∃ (m:Nat),v7=.int .i64 ((m:Int)-1)∧m≤l.length∧v6=.int .u8 ((bu (l.drop m) 0).2:Int)∧Hid (qS w wx g C (.slice (some ⟨q,0,none⟩) l.length cap) (kE l 0 m))) (fun _ v7 _ _=>(RowKit.intOf v7+1).toNat)
    case atStart=>exact ⟨l.length,rfl,Hh _,by rw [List.drop_length];rfl,by rw [sj];exact hS⟩
    case round=>
     obtain ⟨m,rfl,hm,rfl,hS2⟩:=hrel
     cases m with
     |zero=>
      have dk2:decide ((0:Int)≤((0:Nat):Int)-1)=false:=by decide
      rw [HX]
      rw [pH] at hS2
      obtain ⟨k1,k2⟩:=dZ l 0 (by omega) hd10
      have hstep:iL l 0=if (bu l 0).2=0 then (bu l 0).1 else (bu l 0).2::(bu l 0).1:=rfl
      have hdl:=en l 0
      generalize (bu l 0).2=cy at*
      generalize (bu l 0).1=dl at*
      clear hS hc
      by_cases hcy:cy=0
      ·rw [if_pos hcy] at hstep
       have dcy:decide ((0:Int)<(cy:Int))=false:=decide_eq_false (by omega)
       rw [hstep] at hok
       clear hstep
       go_wp2
       go_roundw
       case rel=>exact ⟨j,dl,rfl,by omega,hS2,hok⟩
       case measure=>simp [RowKit.intOf]
      ·rw [if_neg hcy] at hstep
       have dcy:decide ((0:Int)<(cy:Int))=true:=decide_eq_true (by omega)
       rw [hstep] at hok
       obtain ⟨v',w',hrun,hS3⟩:=hS2.out.ahead cy (by omega) (fun d hd=>by have:=k2 d hd;omega) (by rw [hdl];unfold dI;omega)
       replace hS3:=aa hS3
       clear hstep
       go_wp2
       go_roundw
       case rel=>exact ⟨j,cy::dl,rfl,by omega,hS3,hok⟩
       case measure=>simp [RowKit.intOf]
     |succ p=>
      have dk2:decide ((0:Int)≤((p+1:Nat):Int)-1)=true:=decide_eq_true (by omega)
      have ep:((p+1:Nat):Int)-1=(p:Int):=by omega
      rw [ep] at dk2 ⊢
      clear ep
      have hpl:p<l.length:=hm
      have hp0:(0:Int)≤(p:Int):=by omega
      have hp1:(p:Int)<(l.length:Int):=by omega
      obtain ⟨p0,p1⟩:=hS2.out.dig (jA l 0 (p+1)).symm (we (c:=0) hpl)
      have hdd:=kD (c:=0) hpl
      have hset:=hS2.out.put (jA l 0 (p+1)).symm hq1 p ((2*l[p]+(bu (l.drop (p+1)) 0).2) % 10)
      rw [si hpl] at hset
      have hcd:=(dZ (l.drop (p+1)) 0 (by omega) (fun d hd=>hd10 d (List.mem_of_mem_drop hd))).1
      have hlp:=hd10 l[p] (Ho hpl)
      have hnx:(bu (l.drop p) 0).2=(2*l[p]+(bu (l.drop (p+1)) 0).2) / 10:=by rw [hdd]
      have hq3:=hS2.out.lt
      replace hset:=aa hset
      replace hnx:=aa hnx
      clear hdd hS hc hS2
      generalize (bu (l.drop (p+1)) 0).2=cy at*
      generalize l[p]=lp at*
      have e1:IntKind.u8.wrap (2*(lp:Int))=2*(lp:Int):=by rw [IntKind.wrap_u8];omega
      have e2:IntKind.u8.wrap (2*(lp:Int)+(cy:Int))=2*(lp:Int)+(cy:Int):=by rw [IntKind.wrap_u8];omega
      go_wp2
      go_roundw
      case rel=>
       have hs2:=hset.out
       rw [show (((2*lp+cy) % 10:Nat):Int)=(2*(lp:Int)+(cy:Int)) % 10 from by omega] at hs2
       exact ⟨p,rfl,by omega,by rw [hnx.out,show (((2*lp+cy) / 10:Nat):Int)=(2*(lp:Int)+(cy:Int)) / 10 from by omega],aa hs2⟩
      case measure=>simp [RowKit.intOf]
end
end Go.Proofs.YtiebolhmdhdagaaGreatDoor

import Derived.Test.YtijcdfdbkffiaaaGreatDoorCbp04
set_option linter.all false
set_option maxHeartbeats 8000000
set_option maxRecDepth 100000
open Go.Proofs.Tryz
namespace Go.Proofs.YtijcdfdbkffiaaaGreatDoor
open _root_.Nat renaming lt_of_lt_of_le→Hr, le_refl→Ht, le_trans→Hw, zero_le→Hz, le_of_lt→HL, lt_succ_self→HV, zero_add→H3
open _root_.Go.RowKit.Below renaming refl→Hs
open _root_.Bool renaming false_and→Hu, true_and→Hx, and_eq_true→Hy, or_eq_true→HS, and_eq_false_iff→Ib
open _root_.List renaming getElem?_eq_getElem→HA, getElem?_toArray→HB, getElem?_cons_zero→HC, getElem?_cons_succ→HD, getElem_mem→HE, setIfInBounds_toArray→HI, length_append→HM, length_cons→HN, all_eq_true→HT, mem_cons→HU, range→HX, length_map→H4, mem_range→H5, take_length→H7, take_succ_eq_append_getElem→H9, eq_nil_of_length_eq_zero→Ie, take_append_drop→Ig
open _root_.Int renaming eq_ofNat_of_zero_le→HH
open _root_.Option renaming bind_some→HP
open _root_.Array renaming getElem?_eq_some_iff→Ir, getElem?_setIfInBounds→Iv
open Go.RowKit
section
open Go.RowKit Go.Lib
attribute [local go_sem ↓] cH
theorem wj:(prog.info? 5).map (fun i=>(i.zero,i.size,i.bytes))=some (some (.int .u8 0),1,1):=by kernel_rfl
def DY (c:UInt8):Value:=.int .u8 (c.toNat:Int)
def nU (w:World) (base:Nat) (v:Value) (l:List UInt8):Prop:=w.ownsRow base 5 1 v l.length (l.map DY)
theorem nU.nil_ (w:World) (base:Nat):nU w base (.slice none 0 0) []:=World.ownsRow_nil _ _ _ _
theorem nU.below {w w':World} {base C:Nat} {v:Value} {l:List UInt8} (h:nU w base v l) (hb:Below C w w') (hC:w.heap.size≤C):nU w' base v l:=dO h hb hC
theorem nU.form {w:World} {base:Nat} {v:Value} {l:List UInt8} (h:nU w base v l):∃ A cap,v=.slice A l.length cap:=by
 rcases h.2 with ⟨rfl,hz⟩|⟨g,cap,cur,rfl,_⟩
 ·exact ⟨none,0,by rw [hz]⟩
 ·exact ⟨_,_,rfl⟩
theorem wt (xs:List UInt8):∀ u∈xs.map DY,u.oneCell'=true:=fun u hu=>by
 obtain ⟨x,-,rfl⟩:=List.mem_map.1 hu;rfl
theorem wu {W:World} {base base':Nat} {v u:Value} {l m:List UInt8} (hd:nU W base v l) (hs:nU W base' u m) (hb:base≤W.heap.size) (hz:l.length≤dX) (hm:m.length≤dX):
  ∃ v' w',(eh #[86,86] 86 #[v,u]).run prog W=.ok v' w'∧nU w' base v' (l++m)∧Below base W w':=by
 unfold dX at hz hm
 obtain ⟨ii,hii,hzi0,hzi1,hzi2⟩:=info_parts wj
 rcases hs.2 with ⟨rfl,hz0⟩|⟨g,cap,cur,rfl,_,hg,_⟩
 ·have hy:m= []:=Ie hz0
  subst hy
  refine ⟨v,W,?_,by rw [List.append_nil];exact hd,Hs _ _⟩
  unfold eh
  rcases hd.2 with ⟨rfl,hzz⟩|⟨g,cap,cur,rfl,_,_,hnc,_⟩
  ·simp [Builtin.append_,run_underlying underlying86,sizeOf,typeInfo,hii,Builtin.lenOf,Builtin.firstCells]
  ·simp [Builtin.append_,run_underlying underlying86,sizeOf,typeInfo,hii,Builtin.lenOf,Builtin.firstCells,hnc,storeCells]
 ·obtain ⟨v',w',hrun,h2,h3,_,_⟩:=run_append_own_at (P:=prog) W base 86 86 5 ii (.int .u8 0) 1 1 underlying86 hii hzi0 hzi1 hzi2 rfl (by omega) v l.length _ hd ⟨g,0,none⟩ m.length cap (m.map DY) hs.1
   (fun j x hx=>hs.cells (g:=g) rfl j x hx) (wt m) (by simp [maxLen];omega) (by omega) hb
  exact ⟨v',w',hrun,by unfold nU;simpa using h2,(Hs _ _).grown h3 hb (fun g e=>(hd.lt g e).1)⟩
theorem zI {W:World} {base:Nat} {u:Value} {m:List UInt8} (c:UInt8) (hs:nU W base u m) (hb:base≤W.heap.size) (hm:m.length≤dX):
  ∃ v' w',(eh #[86,86] 86 #[.slice (some ⟨W.heap.size,0,none⟩) 1 1,u]).run prog (W.alloc (.cells #[.int .u8 (c.toNat:Int)] 5))=.ok v' w'∧nU w' base v' (c::m)∧Below base W w':=by
 have hd:nU (W.alloc (.cells #[.int .u8 (c.toNat:Int)] 5)) base (.slice (some ⟨W.heap.size,0,none⟩) 1 1) [c]:=
  ⟨by simp,.inr ⟨W.heap.size,1,#[.int .u8 (c.toNat:Int)],rfl,hb,heap_alloc_new W _,by simp,by decide,rfl,by simp [DY]⟩⟩
 obtain ⟨v',w',h1,h2,h3⟩:=wu hd (World.ownsRow.alloc hs _) (by simp;omega) (by simp [dX]) hm
 exact ⟨v',w',h1,h2,((Hs _ _).alloc hb _).trans h3⟩
theorem Cx {W:World} {base:Nat} {v:Value} {l:List UInt8} (h:nU W base v l) (hl:l≠ []):(convert 86 9 v).run prog W=.ok (.string ⟨l.toArray⟩) W:=by
 rcases h.2 with ⟨rfl,hz⟩|⟨g,cap,cur,rfl,_,hg,_⟩
 ·exact absurd (Ie hz) hl
 ·refine run_convert_bytes_back W 86 9 5 ⟨g,0,none⟩ cap l underlying86 underlying5 underlying9 fun j hj=> ?_
  have:=h.cells (g:=g) rfl j (DY l[j]) (by simp [hj])
  simpa [Addr.add,DY] using this
theorem nU.setg {W:World} {base k i:Nat} {v u:Value} {l:List UInt8} (h:nU W base u l) (hk:k<base):nU (W.setCell ⟨k,i,none⟩ v) base u l:=by
 refine ⟨h.1,?_⟩
 rcases h.2 with h2|⟨g,cap,cur,rfl,hg,hh,r⟩
 ·exact .inl h2
 ·exact .inr ⟨g,cap,cur,rfl,hg,(Below.heap_setCell _ _ _ _ (fun e=>by first|(have h2:g=k:=e;omega)|(have h2:k=g:=e;omega))).trans hh,r⟩
end
def uQ (l:Array Bool):Nat:=(l.toList.filter (!·)).length
theorem nV {l:Array Bool} {i:Nat} (hi:l[i]? =some false):uQ (l.setIfInBounds i true)+1=uQ l:=by
 obtain ⟨l⟩:=l
 unfold uQ
 simp only [HI]
 simp at hi
 induction l generalizing i with
 |nil=>simp at hi
 |cons x l ih=>
  cases i with
  |zero=>simp at hi;subst hi;simp
  |succ i=>
   have:=ih (i:=i) (by simpa using hi)
   cases x<;>simp [List.filter_cons] at this ⊢ <;>omega
theorem jP {md:Region.Mode} {ops:Array Oper} {l:Array Bool} {i:Nat} (h:i∈Region.ready md ops l) (hs:l.size=ops.size):l[i]? =some false:=by
 unfold Region.ready at h
 obtain ⟨h1,h2⟩:=List.mem_filter.1 h
 have hi:i<l.size:=by rw [hs];exact H5.1 h1
 simp only [Hy,Bool.not_eq_true'] at h2
 have:=h2.1
 rw [Array.getD_eq_getD_getElem?,Array.getElem?_eq_getElem hi] at this
 rw [Array.getElem?_eq_getElem hi]
 simpa using this
theorem ww {P:Program} {md:Region.Mode} {ops:Array Oper} {Q:Exit→Act→World→Prop} (Inv:Array Bool→Act→World→Prop)
  (hstep:∀ l a w i,l.size=ops.size→i∈Region.ready md ops l→Inv l a w→wpOp P ops Q i (Inv (l.setIfInBounds i true)) a w)
  (hend:∀ l a w,l.size=ops.size→Region.ready md ops l= []→Inv l a w→Q .normal a w):
  ∀ (fuel:Nat) (l:Array Bool) (a:Act) (w:World),l.size=ops.size→uQ l≤fuel→Inv l a w→wpAny P md ops Q fuel l a w:=by
 intro fuel
 induction fuel with
 |zero=>
  intro l a w hs hl hI
  have hr:Region.ready md ops l= []:=by
   rcases hq:Region.ready md ops l with _|⟨i,r⟩
   ·rfl
   ·have hi:i∈Region.ready md ops l:=by rw [hq];exact List.mem_cons_self
    have:=nV (jP hi hs)
    omega
  exact ⟨hr,hend l a w hs hr hI⟩
 |succ fuel ih=>
  intro l a w hs hl hI
  refine ⟨fun hr=>hend l a w hs hr hI,fun i hi=> ?_⟩
  have h1:=nV (jP hi hs)
  exact wpOp_mono (fun a' w' h'=>ih _ a' w' (by simpa using hs) (by omega) h') (hstep l a w i hs hi hI)
section
attribute [local go_sem ↓] iP gn
theorem DZ {P:Program} {ops:Array Oper} {Q:Exit→Act→World→Prop} {i:Nat} {a:Act} {w:World} {K':Act→World→Prop} (h:∀ K:Act→World→Prop,(∀ a w,K' a w→K a w)→wpOp P ops Q i K a w):wpOp P ops Q i K' a w:=h K' fun _ _ h=>h
structure Cz (x y:Value) (ra rb:Array Value) (n:Nat) (wb:World) (l0 l1 l2 l3 l4 l5 l6 l7:Bool) (s5 s6 s8 s9 s10 s11:Value) (g5 g6:Nat) (w:World):Prop where
 hb:Below wb.heap.size wb w
 i0:l0=true→s8=x
 i1:l1=true→s9=.agg ra
 i2:l2=true→s10=y
 i3:l3=true→s11=.agg rb
 i4:l4=true→s5=.pointer (some ⟨g5,0,none⟩)∧wb.heap.size≤g5∧w.heap[g5]? =some (.cells (if l6 then ra else Tryz.zeroCells163) 163 (0,0))
 i5:l5=true→s6=.pointer (some ⟨g6,0,none⟩)∧wb.heap.size≤g6∧w.heap[g6]? =some (.cells (if l7 then rb else Tryz.zeroCells163) 163 (0,0))
 i6:l4=true→l5=true→g5≠g6
 i7:l6=true→l4=true
 i8:l7=true→l5=true
theorem wy {r:List Nat} {c:Bool} (hr:r= []) (h:(!r.isEmpty ||c)=true):c=true:=by subst hr;simpa using h
theorem aN {w:World} {g:Nat} {o:Obj} (h:w.heap[g]? =some o):g<w.heap.size:=(Ir.1 h).1
theorem Cz.mono {x y:Value} {ra rb:Array Value} {n:Nat} {wb w w':World} {l0 l1 l2 l3 l4 l5 l6 l7:Bool} {s5 s6 s8 s9 s10 s11:Value} {g5 g6:Nat} (h:Cz x y ra rb n wb l0 l1 l2 l3 l4 l5 l6 l7 s5 s6 s8 s9 s10 s11 g5 g6 w) (hb:Below w.heap.size w w'):Cz x y ra rb n wb l0 l1 l2 l3 l4 l5 l6 l7 s5 s6 s8 s9 s10 s11 g5 g6 w':=
 { h with
  hb:=h.hb.trans (hb.mono h.hb.size)
  i4:=fun q=>⟨(h.i4 q).1,(h.i4 q).2.1,(hb.block _ (aN (h.i4 q).2.2)).trans (h.i4 q).2.2⟩
  i5:=fun q=>⟨(h.i5 q).1,(h.i5 q).2.1,(hb.block _ (aN (h.i5 q).2.2)).trans (h.i5 q).2.2⟩}
def eX (x y:Value) (n:Nat) (s5 s6 s8 s9 s10 s11:Value):Act:=
 { tmps:=#[x,y,.pointer (some ⟨n,0,none⟩),.pointer (some ⟨n+1,0,none⟩),.pointer (some ⟨n+2,0,none⟩),s5,s6,undef,s8,s9,s10,s11,undef,undef,undef,undef,undef,undef,undef,undef,undef,undef,undef,undef,undef,undef,undef,undef],defers:= []}
def D0 (x y:Value) (ra rb:Array Value) (n:Nat) (wb:World) (l:Array Bool) (a:Act) (w:World):Prop:=
 ∃ l0 l1 l2 l3 l4 l5 l6 l7 s5 s6 s8 s9 s10 s11 g5 g6,l=#[l0,l1,l2,l3,l4,l5,l6,l7]∧a=eX x y n s5 s6 s8 s9 s10 s11∧Cz x y ra rb n wb l0 l1 l2 l3 l4 l5 l6 l7 s5 s6 s8 s9 s10 s11 g5 g6 w
def qC (h1 l1 h2 l2:Int) (k j:Nat):Value:=.bool ((if j<64 then bu l1 j else bu h1 (j-64))&&(decide (k≤j) ||(if j<64 then bu l2 j else bu h2 (j-64))))
def kj (h1 l1 h2 l2:Int) (k:Nat):Array Value:=((HX 128).map (qC h1 l1 h2 l2 k)).toArray
theorem gA (h1 l1 h2 l2:Int) (k j:Nat) (hj:j<128):(kj h1 l1 h2 l2 k)[j]? =some (qC h1 l1 h2 l2 k j):=by simp [kj,hj]
theorem fx (h1 l1 h2 l2:Int) (k:Nat):(kj h1 l1 h2 l2 k).size=128:=by simp [kj]
theorem wC (h1 l1 h2 l2:Int):kj h1 l1 h2 l2 0=bh h1 l1 64:=et (fx _ _ _ _ _) (aQ _ _ _) fun j hj=>by
 rw [gA _ _ _ _ _ _ hj,bE _ _ _ _ hj]
 by_cases h:j<64<;>simp [qC,fj,h]
 omega
theorem wD (h1 l1 h2 l2:Int) {k:Nat} (hk:k<128):(kj h1 l1 h2 l2 k).setIfInBounds k (.bool ((if k<64 then bu l1 k else bu h1 (k-64))&&(if k<64 then bu l2 k else bu h2 (k-64))))=kj h1 l1 h2 l2 (k+1):=
 et (by simp [fx]) (fx _ _ _ _ _) fun j hj=>by
  rw [Iv,gA _ _ _ _ _ _ hj,gA _ _ _ _ _ _ hj]
  simp only [fx]
  by_cases h:k=j
  ·subst h
   simp [qC,hk,show ¬(k+1≤k) by omega]
  ·rw [if_neg h]
   have:decide (k≤j)=decide (k+1≤j):=by rw [decide_eq_decide];omega
   simp [qC,this]
theorem ax {W:World} {g k:Nat} {C:Array Value} {t:TypeId} {fr:Nat×Nat} {v:Value} (h:W.heap[g]? =some (.cells C t fr)):(W.setCell ⟨g,k,none⟩ v).heap[g]? =some (.cells (C.setIfInBounds k v) t fr):=by
 simp [World.setCell,Array.getElem?_modify,h]
theorem aH {W:World} {g:Nat} {C:Array Value} {t:TypeId} {fr:Nat×Nat} (h:W.heap[g]? =some (.cells C t fr)) (k:Nat):W.cell? ⟨g,k,none⟩=C[k]? :=by simp [World.cell?,h]
theorem cm {W:World} {g:Nat} {C:Array Value} {t:TypeId} (h:W.heap[g]? =some (.cells C t (0,0))) (k:Nat):W.frozen? ⟨g,k,none⟩=false:=by simp [World.frozen?,h]
theorem ak {W:World} {g b k:Nat} {v:Value} (h:b≠g):(W.setCell ⟨g,k,none⟩ v).heap[b]? =W.heap[b]? :=by
 simp only [World.setCell,Array.getElem?_modify]
 rw [if_neg (Ne.symm h)]
theorem qD {x y:Int} (hx:aW x) (hy:aW y):∃ X Y:Nat,x=X∧y=Y∧aJ x y=((X&&&Y:Nat):Int):=by
 obtain ⟨a0,a1⟩:=hx
 obtain ⟨b0,b1⟩:=hy
 obtain ⟨X,rfl⟩:=HH a0
 obtain ⟨Y,rfl⟩:=HH b0
 exact ⟨X,Y,rfl,rfl,by rw [aJ,u64_and_nat X Y (by omega) (by omega)]⟩
theorem qE {x y:Int} (hx:aW x) (hy:aW y) (j:Nat):bu (aJ x y) j=(bu x j&&bu y j):=by
 obtain ⟨X,Y,rfl,rfl,h⟩:=qD hx hy
 rw [h,eH,eH,eH,Nat.testBit_and]
theorem kI {x y:Int} (hx:aW x) (hy:aW y):aW (aJ x y):=by
 obtain ⟨X,Y,rfl,rfl,h⟩:=qD hx hy
 rw [h]
 have:=Nat.and_le_left (n:=X) (m:=Y)
 have:=hx.2
 exact ⟨by omega,by omega⟩
theorem zJ {h1 l1 h2 l2:Int} (u1:aW h1) (u2:aW l1) (u3:aW h2) (u4:aW l2):kj h1 l1 h2 l2 128=bh (aJ h1 h2) (aJ l1 l2) 64:=et (fx _ _ _ _ _) (aQ _ _ _) fun j hj=>by
 rw [gA _ _ _ _ _ _ hj,bE _ _ _ _ hj]
 unfold qC fj
 rw [qE u2 u4,qE u1 u3]
 by_cases h:j<64
 ·simp [h,show ¬(128≤j) by omega]
 ·simp [h,show ¬(128≤j) by omega,show j<64+64 by omega]
theorem wE (h1 l1 h2 l2:Int) (w:World) (u1:aW h1) (u2:aW l1) (u3:aW h2) (u4:aW l2):Calls prog 142 #[.agg #[.int .u64 h1,.int .u64 l1],.agg #[.int .u64 h2,.int .u64 l2]] w fun e w'=>e=.returned (.agg #[.int .u64 (aJ h1 h2),.int .u64 (aJ l1 l2)])∧Below w.heap.size w w':=by
 have hN:=aa (fun W=>jt (aJ h1 h2) (aJ l1 l2) W (kI u1 u3) (kI u2 u4))
 have hend:=aa (zJ u1 u2 u3 u4)
 have hBa:=aa (fun W=>fR h1 l1 W u1 u2)
 have hBb:=aa (fun W=>fR h2 l2 W u3 u4)
 obtain ⟨wa,hwa,hsa,hba,hca,-⟩:=af w #[.int .u64 h1,.int .u64 l1] 96
 obtain ⟨wq,hwq,hsq,hbq,hcq,-⟩:=af wa #[.int .u64 h2,.int .u64 l2] 96
 obtain ⟨wb,hwb,hsb,hbb,hcb,-⟩:=af wq #[.int .u64 0,.int .u64 0] 96
 have y0:wb.cell? ⟨w.heap.size,0,none⟩=some (.int .u64 h1):=(bj hbb w.heap.size 0 (by omega)).trans ((bj hbq w.heap.size 0 (by omega)).trans (hca 0))
 have y1:wb.cell? ⟨w.heap.size,1,none⟩=some (.int .u64 l1):=(bj hbb w.heap.size 1 (by omega)).trans ((bj hbq w.heap.size 1 (by omega)).trans (hca 1))
 rw [hsa] at hcq
 have y2:wb.cell? ⟨w.heap.size+1,0,none⟩=some (.int .u64 h2):=(bj hbb (w.heap.size+1) 0 (by omega)).trans (hcq 0)
 have y3:wb.cell? ⟨w.heap.size+1,1,none⟩=some (.int .u64 l2):=(bj hbb (w.heap.size+1) 1 (by omega)).trans (hcq 1)
 have hg4:wb.heap[w.heap.size+2]? =some (.cells #[.int .u64 0,.int .u64 0] 96 (0,0)):=by rw [←hwb,show w.heap.size+2=wq.heap.size by omega];exact heap_alloc_last wq _
 have hbw:=aa ((hba.trans (hbq.mono (by omega))).trans (hbb.mono (by omega)))
 have hzb:w.heap.size+2<wb.heap.size:=by omega
 have hzb1:w.heap.size+1<wb.heap.size:=by omega
 have hzb0:w.heap.size<wb.heap.size:=by omega
 replace hg4:=aa hg4
 clear hca hcq hcb hba hbq hbb
 go_enter func142,ntmps142
 go_upto_region 1 with (fail)
 go_cut [5,6,8,9,10,11] (fun s5 s6 s8 s9 s10 s11 wx=>∃ g5 g6:Nat,s5=.pointer (some ⟨g5,0,none⟩)∧s6=.pointer (some ⟨g6,0,none⟩)∧Hid (wb.heap.size≤g5∧g5≠g6)∧Hid (wx.heap[g5]? =some (.cells (bh h1 l1 64) 163 (0,0)))∧Hid (wx.heap[g6]? =some (.cells (bh h2 l2 64) 163 (0,0)))∧Hid (Below wb.heap.size wb wx))
 case first=>
  refine wp_region_any (by kernel_rfl) ?_
  refine ww (D0 (.agg #[.int .u64 h1,.int .u64 l1]) (.agg #[.int .u64 h2,.int .u64 l2]) (bh h1 l1 64) (bh h2 l2 64) w.heap.size wb) ?_ ?_ _ _ _ _ (by simp) (by decide) ?_
  ·intro l a w1 i hs hi hI
   obtain ⟨l0,l1',l2',l3,l4,l5,l6,l7,s5,s6,s8,s9,s10,s11,g5,g6,rfl,rfl,hI⟩:=hI
   have hw0:((i==0) ||((i==1)&&l0) ||(i==2) ||((i==3)&&l1'&&l2') ||((i==4)&& !l4) ||((i==5)&& !l5) ||((i==6)&&l4&&l1'&& !l6) ||((i==7)&&l5&&l3&& !l7))=true:=by
    refine (HT (p:=fun i=>((i==0) ||((i==1)&&l0) ||(i==2) ||((i==3)&&l1'&&l2') ||((i==4)&& !l4) ||((i==5)&& !l5) ||((i==6)&&l4&&l1'&& !l6) ||((i==7)&&l5&&l3&& !l7)))).1 ?_ i hi
    clear hs hI hi
    revert l0 l1' l2' l3 l4 l5 l6 l7
    decide+kernel
   have hw:(i=0)∨(i=1∧l0=true)∨(i=2)∨(i=3∧l1'=true∧l2'=true)∨(i=4∧l4=false)∨(i=5∧l5=false)∨(i=6∧l4=true∧l1'=true∧l6=false)∨(i=7∧l5=true∧l3=true∧l7=false):=by
    simpa [or_assoc,and_assoc] using hw0
   clear hw0
   clear hi hs
   have kb:=ae hI.hb
   have hzw:=hI.hb.size
   refine DZ fun K hK=> ?_
   replace hK:=aa hK
   replace hI:=aa hI
   rcases hw with rfl|⟨rfl,q⟩|rfl|⟨rfl,q,q'⟩|⟨rfl,q⟩|⟨rfl,q⟩|⟨rfl,q,q',q''⟩|⟨rfl,q,q',q''⟩
   ·skip
    unfold wpOp eX
    simp only [HB,HC,HD]
    rw [if_pos (by rfl)]
    refine Or.inl ?_
    go_wp2
    exact hK.out _ _ ⟨true,l1',l2',l3,l4,l5,l6,l7,s5,s6,_,s9,s10,s11,g5,g6,rfl,rfl, { hI.out with i0:=fun _=>rfl}⟩
   ·obtain rfl:=hI.out.i0 q
    unfold wpOp eX
    simp only [HB,HC,HD]
    rw [if_pos (by rfl)]
    refine Or.inl ?_
    go_wp2_with fail
    refine (hBa.out _).mono ?_
    rintro e w2 ⟨rfl,hb2⟩
    exact hK.out _ _ ⟨l0,true,l2',l3,l4,l5,l6,l7,s5,s6,_,_,s10,s11,g5,g6,rfl,rfl, { hI.out.mono hb2 with i1:=fun _=>rfl}⟩
   ·skip
    unfold wpOp eX
    simp only [HB,HC,HD]
    rw [if_pos (by rfl)]
    refine Or.inl ?_
    go_wp2
    exact hK.out _ _ ⟨l0,l1',true,l3,l4,l5,l6,l7,s5,s6,s8,s9,_,s11,g5,g6,rfl,rfl, { hI.out with i2:=fun _=>rfl}⟩
   ·obtain rfl:=hI.out.i2 q'
    unfold wpOp eX
    simp only [HB,HC,HD]
    rw [if_pos (by rfl)]
    refine Or.inl ?_
    go_wp2_with fail
    refine (hBb.out _).mono ?_
    rintro e w2 ⟨rfl,hb2⟩
    exact hK.out _ _ ⟨l0,l1',l2',true,l4,l5,l6,l7,s5,s6,s8,s9,_,_,g5,g6,rfl,rfl, { hI.out.mono hb2 with i3:=fun _=>rfl}⟩
   ·skip
    unfold wpOp eX
    simp only [HB,HC,HD]
    rw [if_pos (by rfl)]
    refine Or.inl ?_
    go_wp2
    have hb2:Below w1.heap.size w1 (w1.alloc (.cells Tryz.zeroCells163 163)):=(Hs _ _).alloc (Ht _) _
    have h6:l6=false:=by
     cases h:l6 with
     |false=>
      rfl
     |true=>
      have:=hI.out.i7 h;rw [q] at this;cases this
    refine hK.out _ _ ⟨l0,l1',l2',l3,true,l5,l6,l7,_,s6,s8,s9,s10,s11,w1.heap.size,g6,rfl,rfl, { hI.out.mono hb2 with i4:=fun _=>⟨rfl,hzw,?_⟩,i6:=fun _ h5=> ?_,i7:=fun _=>rfl}⟩
    ·rw [h6];exact heap_alloc_last w1 _
    ·have:=aN (hI.out.i5 h5).2.2;omega
   ·skip
    unfold wpOp eX
    simp only [HB,HC,HD]
    rw [if_pos (by rfl)]
    refine Or.inl ?_
    go_wp2
    have hb2:Below w1.heap.size w1 (w1.alloc (.cells Tryz.zeroCells163 163)):=(Hs _ _).alloc (Ht _) _
    have h7:l7=false:=by
     cases h:l7 with
     |false=>
      rfl
     |true=>
      have:=hI.out.i8 h;rw [q] at this;cases this
    refine hK.out _ _ ⟨l0,l1',l2',l3,l4,true,l6,l7,s5,_,s8,s9,s10,s11,g5,w1.heap.size,rfl,rfl, { hI.out.mono hb2 with i5:=fun _=>⟨rfl,hzw,?_⟩,i6:=fun h4 _=> ?_,i8:=fun _=>rfl}⟩
    ·rw [h7];exact heap_alloc_last w1 _
    ·have:=aN (hI.out.i4 h4).2.2;omega
   ·obtain ⟨rfl,hg,hh⟩:=hI.out.i4 q
    obtain rfl:=hI.out.i1 q'
    rw [q''] at hh
    have hst:=eG hh rfl (aQ _ _ _) (gm h1 l1 64)
    have hat:=js (C':=bh h1 l1 64) hh
    unfold wpOp eX
    simp only [HB,HC,HD]
    rw [if_pos (by rfl)]
    refine Or.inl ?_
    go_wp2
    refine hK.out _ _ ⟨l0,l1',l2',l3,l4,l5,true,l7,_,s6,s8,_,s10,s11,g5,g6,rfl,rfl, { hI.out with hb:=below_setRow hI.out.hb hg _,i4:=fun _=>⟨rfl,hg,hat⟩,i5:=fun h5=>⟨(hI.out.i5 h5).1,(hI.out.i5 h5).2.1,?_⟩,i7:=fun _=>q}⟩
    rw [lA (Ne.symm (hI.out.i6 q h5))]
    exact (hI.out.i5 h5).2.2
   ·obtain ⟨rfl,hg,hh⟩:=hI.out.i5 q
    obtain rfl:=hI.out.i3 q'
    rw [q''] at hh
    have hst:=eG hh rfl (aQ _ _ _) (gm h2 l2 64)
    have hat:=js (C':=bh h2 l2 64) hh
    unfold wpOp eX
    simp only [HB,HC,HD]
    rw [if_pos (by rfl)]
    refine Or.inl ?_
    go_wp2
    refine hK.out _ _ ⟨l0,l1',l2',l3,l4,l5,l6,true,s5,_,s8,s9,s10,_,g5,g6,rfl,rfl, { hI.out with hb:=below_setRow hI.out.hb hg _,i5:=fun _=>⟨rfl,hg,hat⟩,i4:=fun h4=>⟨(hI.out.i4 h4).1,(hI.out.i4 h4).2.1,?_⟩,i8:=fun _=>q}⟩
    rw [lA (hI.out.i6 h4 q)]
    exact (hI.out.i4 h4).2.2
  ·intro l a w1 hs hr hI
   obtain ⟨l0,l1',l2',l3,l4,l5,l6,l7,s5,s6,s8,s9,s10,s11,g5,g6,rfl,rfl,hI⟩:=hI
   have hw:l4=true∧l5=true∧l6=true∧l7=true:=by
    have hq:(l4&&l5&&l6&&l7)=true:=by
     refine wy hr ?_
     clear hs hI hr
     revert l0 l1' l2' l3 l4 l5 l6 l7
     decide+kernel
    simpa [and_assoc] using hq
   obtain ⟨rfl,rfl,rfl,rfl⟩:=hw
   obtain ⟨rfl,hg5,hh5⟩:=hI.i4 rfl
   obtain ⟨rfl,hg6,hh6⟩:=hI.i5 rfl
   simp only [eX]
   go_wp2
   go_meet
   exact ⟨g5,g6,rfl,rfl,aa ⟨hg5,hI.i6 rfl rfl⟩,aa hh5,aa hh6,aa hI.hb⟩
  ·exact ⟨false,false,false,false,false,false,false,false,undef,undef,undef,undef,undef,undef,0,1,rfl,rfl,⟨⟨rfl,rfl,rfl,Ht _,fun _ _=>rfl⟩,nofun,nofun,nofun,nofun,nofun,nofun,nofun,nofun,nofun⟩⟩
 case rest=>
  obtain ⟨g5,g6,rfl,rfl,hgg,hg5,hg6,hbx⟩:=hcut
  rw [←wC h1 l1 h2 l2] at hg5
  have hsz6:=aQ h2 l2 64
  clear hBa hBb y0 y1 y2 y3 hwa hwb hwq
  go_wp2
  go_loopw [7] (fun i wr=>∃ k:Nat,k≤128∧i=.int .i64 k∧Hid (wr.heap[g5]? =some (.cells (kj h1 l1 h2 l2 k) 163 (0,0)))∧Hid (wr.heap[g6]? =some (.cells (bh h2 l2 64) 163 (0,0)))∧Hid (Below wb.heap.size wb wr)) (fun i _=>128-(intOf i).toNat)
  case atStart=>exact ⟨0,Hz _,rfl,hg5,hg6,hbx⟩
  case round=>
   obtain ⟨k,hk,rfl,hG5,hG6,hB⟩:=hrel
   have lt5:=aN hG5.out
   have lt6:=aN hG6.out
   by_cases hlt:k<128
   focus
    have hltz:(k:Int)<128:=by omega
    have hsucc:=wD h1 l1 h2 l2 hlt
    have d5:=(aH hG5.out k).trans (gA h1 l1 h2 l2 k k hlt)
    have d6:=(aH hG6.out k).trans (bE h2 l2 64 k hlt)
    have e5:qC h1 l1 h2 l2 k k=.bool (if k<64 then bu l1 k else bu h1 (k-64)):=by simp [qC]
    have e6:fj h2 l2 64 k=.bool (if k<64 then bu l2 k else bu h2 (k-64)):=by
     by_cases h:k<64<;>simp [fj,h]
     omega
    rw [e5] at d5
    rw [e6] at d6
    have ff:=cm hG5.out k
    generalize (if k<64 then bu l1 k else bu h1 (k-64))=b1 at hsucc d5
    generalize (if k<64 then bu l2 k else bu h2 (k-64))=b2 at hsucc d6
    have hnx:=aa (fun (v:Value) (g:(kj h1 l1 h2 l2 k).setIfInBounds k v=kj h1 l1 h2 l2 (k+1))=>show (wr.setCell ⟨g5,k,none⟩ v).heap[g5]? =some (.cells (kj h1 l1 h2 l2 (k+1)) 163 (0,0)) from by rw [←g];exact ax hG5.out)
    have hfa:=aa (fun (v:Value)=>(ak (k:=k) (v:=v) (Ne.symm hgg.out.2)).trans hG6.out)
    have hbl:=aa (fun (v:Value)=>hB.out.setCell (p:=⟨g5,k,none⟩) hgg.out.1 v)
    replace hsucc:=aa hsucc
    clear e5 e6
    cases b1
    rw [Hu] at hsucc
    rotate_right
    rw [Hx] at hsucc
   rotate_right
   focus
    obtain rfl:k=128:=by omega
    rw [hend.out] at hG5
    have hs1:=aQ (aJ h1 h2) (aJ l1 l2) 64
    have hld:=gL hG5.out hs1
    have hgW:=aa ((hB.out.block _ (by omega)).trans hg4.out)
    have hzW:=hB.out.size
    have hBW:=aa (hbw.out.trans (hB.out.mono (by omega)))
    clear hs1 hg5 hg6 hbx hG6 hend
    go_wp2_with fail
    refine (hN.out _).mono ?_
    rintro e w2 ⟨rfl,hb2⟩
    have hg2:w2.heap[w.heap.size+2]? =some (.cells #[.int .u64 0,.int .u64 0] 96 (0,0)):=(hb2.block _ (by omega)).trans hgW.out
    have hB2:=aa (hBW.out.trans (hb2.mono (by omega)))
    have k0:w2.cell? ⟨w.heap.size+2,0,none⟩=some (.int .u64 0):=by simp [World.cell?,hg2]
    have k1:w2.cell? ⟨w.heap.size+2,1,none⟩=some (.int .u64 0):=by simp [World.cell?,hg2]
    have f0:w2.frozen? ⟨w.heap.size+2,0,none⟩=false:=by simp [World.frozen?,hg2]
    have f1:w2.frozen? ⟨w.heap.size+2,1,none⟩=false:=by simp [World.frozen?,hg2]
    clear hg2 hld
    go_wp2
    exact bodyPost_ret (v:=.agg #[.int .u64 (aJ h1 h2),.int .u64 (aJ l1 l2)]) (by simp [results,results142,go_sem,k0,k1]) rfl ⟨rfl,(hB2.out.setCell (by show w.heap.size≤w.heap.size+2;omega) _).setCell (by show w.heap.size≤w.heap.size+2;omega) _⟩
   all_goals
    go_wp2
    go_roundw
    case rel=>exact ⟨k+1,by omega,by go_num,aa (hnx.out _ hsucc.out),aa (hfa.out _),aa (hbl.out _)⟩
    case measure=>simp [intOf];omega
end
section
open Go.RowKit Go.Lib
def GV (d:Nat):Value:=.int .u8 (d:Int)
def Cb (w:World) (base:Nat) (v:Value) (l:List Nat):Prop:=w.ownsRow base 5 1 v l.length (l.map GV)
theorem Cb.bs {w:World} {base:Nat} {v:Value} {l:List Nat} (hl:∀ d∈l,d<256):Cb w base v l↔nU w base v (l.map UInt8.ofNat):=by
 unfold Cb nU
 rw [H4,List.map_map]
 have:l.map GV=l.map (DY∘UInt8.ofNat):=List.map_congr_left fun d hd=>by
  show Value.int .u8 (d:Int)=Value.int .u8 (((UInt8.ofNat d).toNat:Nat):Int)
  rw [show (UInt8.ofNat d).toNat=d from by have:=hl d hd;simp;omega]
 rw [this]
theorem Cb.form {w:World} {base:Nat} {v:Value} {l:List Nat} (h:Cb w base v l) (h0:l≠ []):∃ g cap,v=.slice (some ⟨g,0,none⟩) l.length cap∧base≤g∧g<w.heap.size:=by
 rcases h.2 with ⟨-,hz⟩|⟨g,cap,cur,rfl,hb,hh,-⟩
 ·exact absurd (Ie hz) h0
 ·exact ⟨g,cap,rfl,hb,aN hh⟩
structure yB (w W:World) (g:Nat) (C:Array Value) (v:Value) (l:List Nat):Prop where
 bel:Below w.heap.size w W
 le:w.heap.size≤g
 bx:W.heap[g]? =some (.cells C 163 (0,0))
 row:Cb W (g+1) v l
theorem yB.lt {w W:World} {g:Nat} {C:Array Value} {v:Value} {l:List Nat} (h:yB w W g C v l):g<W.heap.size:=aN h.bx
theorem yB.bit {w W:World} {g:Nat} {C:Array Value} {v:Value} {l:List Nat} (h:yB w W g C v l) (i:Nat):W.cell? ⟨g,i,none⟩=C[i]? :=aH h.bx i
theorem yB.put {w W:World} {g q n cap:Nat} {C:Array Value} {l:List Nat} (h:yB w W g C (.slice (some ⟨q,0,none⟩) n cap) l) (hn:n=l.length) (hq:g+1≤q) (j d:Nat):
  yB w (W.setCell ⟨q,j,none⟩ (.int .u8 (d:Int))) g C (.slice (some ⟨q,0,none⟩) n cap) (l.set j d):=by
 subst hn
 refine ⟨h.bel.setCell (p:=⟨q,j,none⟩) (by have:=h.le;show w.heap.size≤q;omega) _,h.le,?_,?_⟩
 ·rw [ak (by omega)];exact h.bx
 ·have:=(World.ownsRow.stored h.row j (.int .u8 (d:Int))).1
  unfold Cb
  rw [List.length_set,List.map_set]
  exact this
theorem yB.ahead {w W:World} {g:Nat} {C:Array Value} {v:Value} {l:List Nat} (h:yB w W g C v l) (c:Nat) (hc:c<256) (hl:∀ d∈l,d<256) (hz:l.length≤dX):
  ∃ v' w',(eh #[86,86] 86 #[.slice (some ⟨W.heap.size,0,none⟩) 1 1,v]).run prog (W.alloc (.cells #[.int .u8 (c:Int)] 5))=.ok v' w'∧yB w w' g C v' (c::l):=by
 obtain ⟨v',w',h1,h2,h3⟩:=zI (UInt8.ofNat c) ((Cb.bs hl).1 h.row) h.lt (by rw [H4];exact hz)
 rw [show (((UInt8.ofNat c).toNat:Nat):Int)=(c:Int) from by rw [show (UInt8.ofNat c).toNat=c from by simp;omega]] at h1
 refine ⟨v',w',h1,h.bel.trans (h3.mono (by have:=h.le;omega)),h.le,(h3.block g (by omega)).trans h.bx,(Cb.bs (fun d hd=> ?_)).2 h2⟩
 rcases HU.1 hd with rfl|hd
 ·exact hc
 ·exact hl d hd
theorem yB.str {w W:World} {g:Nat} {C:Array Value} {v:Value} {l:List Nat} (h:yB w W g C v (l.map (48+ ·))) (h0:l≠ []) (hl:∀ d∈l,d<10):(convert 86 9 v).run prog W=.ok (.string ⟨(l.map fun d=>UInt8.ofNat (48+d)).toArray⟩) W:=by
 have h1:=(Cb.bs (l:=l.map (48+ ·)) (fun d hd=>by
  obtain ⟨x,hx,rfl⟩:=List.mem_map.1 hd
  have:=hl x hx
  omega)).1 h.row
 rw [List.map_map] at h1
 exact Cx h1 (by simpa using h0)
end
def EH (W:World) (b:Nat) (l:List UInt8):Prop:=Go.Lib.IsBuilder 287 5 b b (Go.Lib.byteCells l) W
theorem zK (b:Nat) (l:List UInt8) (w:World) (h:EH w b l) (hb:b≤w.heap.size):
  Calls prog 242 #[.pointer (some ⟨b,0,none⟩)] w fun e w'=>e=.returned (.string ⟨l.toArray⟩)∧Below b w w':=Tryz.Builder_String_any b b l w h hb
def qF (w:World):Prop:=Go.Lib.TabIs prog w "internal/strconv.uint64pow10" .u64 Go.Lib.pow10Tab
theorem qF.below {w w':World} (h:qF w) (hb:Below w.heap.size w w') (hl:5<w.heap.size):qF w':=by
 unfold qF Go.Lib.TabIs at*
 rw [←h]
 unfold World.var?
 rw [show prog.globalNamed "internal/strconv.uint64pow10" =some 5 from by kernel_rfl]
 simp only [HP]
 rw [hb.block _ hl]
section
open Go.Lib
def uR:List UInt8:= [112,114,105,111]
def FT:List UInt8:= [45,62]
def nW:List UInt8:= [38,38,38]
end
def ia (p:Lp) (act:Int) (g:Nat) (st:List Int) (n:Nd) (w:World) (e:Ending) (w':World):Prop:=
 Gr g w w'∧match cT p act st n with
 |some (r,st')=>e=.returned (.int .i64 r)∧jy w' g st'.reverse false
 |none=>(∃ r,e=.returned (.int .i64 r))∧∃ l,jy w' g l true
theorem CA {p:Lp} {act:Int} {g:Nat} {st:List Int} {n:Nd} {w w':World} {e:Ending} (h6:n.op≤6) (he:e=.returned (.int .i64 (qg p act n))) (hg:Gr g w w') (hs:jy w' g st.reverse false):ia p act g st n w e w':=by
 unfold ia cT
 rw [if_pos h6]
 exact ⟨hg,he,hs⟩
theorem pm {p:Lp} {act:Int} {g:Nat} {st:List Int} {n:Nd} {w w':World} {r:Int} {l:List Int} (h6:¬n.op≤6) (hn:cT p act st n=none) (hg:Gr g w w') (hs:jy w' g l true):ia p act g st n w (.returned (.int .i64 r)) w':=by
 unfold ia
 rw [hn]
 exact ⟨hg,⟨r,rfl⟩,l,hs⟩
theorem qG {p:Lp} {act:Int} {g:Nat} {st:List Int} {w1 r:Int} {n:Nd} {w w':World} (h6:¬n.op≤6) (h1:cj n.op=true) (hr:r=vJ n w1) (hg:Gr g w w') (hs:jy w' g st.reverse false):ia p act g (w1::st) n w (.returned (.int .i64 r)) w':=by
 unfold ia cT
 rw [if_neg h6]
 simp only [if_pos h1]
 exact ⟨hg,by rw [hr],hs⟩
theorem zL {p:Lp} {act:Int} {g:Nat} {st:List Int} {w1 v1 r:Int} {n:Nd} {w w':World} (h6:¬n.op≤6) (h1:¬cj n.op=true) (hr:r=ER n.op v1 w1) (hg:Gr g w w') (hs:jy w' g st.reverse false):ia p act g (w1::v1::st) n w (.returned (.int .i64 r)) w':=by
 unfold ia cT
 rw [if_neg h6]
 simp only [if_neg h1]
 exact ⟨hg,by rw [hr],hs⟩
theorem zM (A1 A2 A3 A4 A5 A6 A7 A8 A9 A10 A11 A12:Option Addr) (p:Lp) (c1 c2 c3 c4 c5 c6 c7 c8 c9 c10 c11 c12:Nat) (act:Int) (n:Nd) (st:List Int) (g:Nat) (w:World) (h:cz w g A1 A2 A3 A4 A5 A6 A7 A8 A9 A10 A11 A12 p) (hn:u8 n.op∧aW n.hi∧aW n.lo) (hst:jy w g st.reverse false) (hw:∀ x∈st,1≤x∧x≤128) (hlen:st.length≤100000):
  Calls prog 131 #[.pointer (some ⟨g,0,none⟩),.agg (aO A1 A2 A3 A4 A5 A6 A7 A8 A9 A10 A11 A12 p c1 c2 c3 c4 c5 c6 c7 c8 c9 c10 c11 c12),.int .i64 act,.agg #[.int .u8 n.op,.int .i64 n.w,.int .i64 n.a,.int .i64 n.b,.int .u64 n.hi,.int .u64 n.lo]] w (ia p act g st n w):=by
 unfold aO
 obtain ⟨op,nw,a,b,hi,lo⟩:=n
 simp only at hn ⊢
 have hgl:=hst.lt
 obtain ⟨wz,hwz,hsz,hbz,hcz,-⟩:=af w (aO A1 A2 A3 A4 A5 A6 A7 A8 A9 A10 A11 A12 p c1 c2 c3 c4 c5 c6 c7 c8 c9 c10 c11 c12) 33
 obtain ⟨wa,hwa,hsa,hba,hca,-⟩:=af wz #[.int .u8 op,.int .i64 nw,.int .i64 a,.int .i64 b,.int .u64 hi,.int .u64 lo] 98
 have Y:=fun i=>(bj hba w.heap.size i (by omega)).trans (hcz i)
 simp only [hsz] at hca
 have x0:wa.cell? ⟨w.heap.size+1,0,none⟩=some (.int .u8 op):=hca 0
 have x1:wa.cell? ⟨w.heap.size+1,1,none⟩=some (.int .i64 nw):=hca 1
 have x2:wa.cell? ⟨w.heap.size+1,2,none⟩=some (.int .i64 a):=hca 2
 have x3:wa.cell? ⟨w.heap.size+1,3,none⟩=some (.int .i64 b):=hca 3
 have x4:wa.cell? ⟨w.heap.size+1,4,none⟩=some (.int .u64 hi):=hca 4
 have x5:wa.cell? ⟨w.heap.size+1,5,none⟩=some (.int .u64 lo):=hca 5
 have hl1:w.heap.size<wa.heap.size:=by omega
 have hl2:w.heap.size+1<wa.heap.size:=by omega
 have hbw:Below w.heap.size w wa:=hbz.trans (hba.mono (by omega))
 have hG:=aa (Gr.of (g:=g) hbw)
 have hS:=aa (hst.below hbw)
 have hP:=(h.below (hbw.mono (by omega))).more (B':=wa.heap.size) (by omega)
 replace hbw:=aa hbw
 replace hsa:=aa hsa
 by_cases h6:op≤6
 ·have y0:=Y 0
  have y1:=Y 1
  have y2:=Y 2
  have y3:=Y 3
  have y4:=Y 4
  have y5:=Y 5
  have y6:=Y 6
  have y7:=Y 7
  have y8:=Y 8
  have y9:=Y 9
  have y10:=Y 10
  have y11:=Y 11
  simp only [HB,HC,HD] at y0 y1 y2 y3 y4 y5 y6 y7 y8 y9 y10 y11
  have hV:=wh A1 A2 A3 A4 A5 A6 A7 A8 A9 A10 A11 A12 p c1 c2 c3 c4 c5 c6 c7 c8 c9 c10 c11 c12 act ⟨op,nw,a,b,hi,lo⟩ wa hP hn.2
  generalize hgv:qg p act ⟨op,nw,a,b,hi,lo⟩=G at hV
  replace hV:=aa hV
  replace hgv:=aa hgv
  clear hca hcz hba hbz h hP Y hw
  go_enter func131,ntmps131
  go_wp2_with (go_at_call 166;refine hV.out.mono ?_;rintro e w3 ⟨rfl,hb3⟩)
  go_ret
  exact CA h6 (av hgv.out.symm) (hG.out.trans (Gr.of hb3)) (hS.out.below hb3)
 ·clear hca hcz hba hbz h hP Y
  have hgn:w.heap.size+1≠g:=by omega
  have hgn:w.heap.size+1≠g:=by omega
  match st,hS,hw,hlen with
  | [],hS,hw,hlen=>
   have hN:=aa (lS wa g false hS.out)
   have hd:=aa (show cT p act [] ⟨op,nw,a,b,hi,lo⟩=none from by simp [cT,h6])
   clear hS hw hst
   go_enter func131,ntmps131
   go_wp2_with fail
   refine hN.out.mono ?_
   rintro e w3 ⟨rfl,hs3,hg3⟩
   have hz3:=Hr hl2 (hg3.size)
   have z0:=(hg3.cell (i:=0) hl2 (by omega)).trans x0
   have z2:=(hg3.cell (i:=2) hl2 (by omega)).trans x2
   have z3:=(hg3.cell (i:=3) hl2 (by omega)).trans x3
   go_wp2_with (go_at_call 167;refine (lS _ g _ hs3).mono ?_;rintro e w4 ⟨rfl,hs4,hg4⟩;have u0:=(hg4.cell (i:=0) hz3 (by omega)).trans z0;have u2:=(hg4.cell (i:=2) hz3 (by omega)).trans z2;have u3:=(hg4.cell (i:=3) hz3 (by omega)).trans z3)
   all_goals go_ret
   all_goals first|exact pm (by simpa using h6) hd.out (hG.out.trans hg3) hs3|exact pm (by simpa using h6) hd.out ((hG.out.trans hg3).trans hg4) hs4
  | [w1],hS,hw,hlen=>
   obtain ⟨hw1,hw2⟩:=hw w1 (by simp)
   have hN:=aa (lT wa g [] w1 false hS.out (by simp))
   have hd:=aa (fun (g:¬cj op=true)=>show cT p act [w1] ⟨op,nw,a,b,hi,lo⟩=none from by simp [cT,h6,g])
   clear hS hw hst
   go_enter func131,ntmps131
   go_wp2_with fail
   refine hN.out.mono ?_
   rintro e w3 ⟨rfl,hs3,hg3⟩
   have hz3:=Hr hl2 (hg3.size)
   have z0:=(hg3.cell (i:=0) hl2 (by omega)).trans x0
   have z2:=(hg3.cell (i:=2) hl2 (by omega)).trans x2
   have z3:=(hg3.cell (i:=3) hl2 (by omega)).trans x3
   go_wp2_with (go_at_call 167;refine (lS _ g _ hs3).mono ?_;rintro e w4 ⟨rfl,hs4,hg4⟩;have u0:=(hg4.cell (i:=0) hz3 (by omega)).trans z0;have u2:=(hg4.cell (i:=2) hz3 (by omega)).trans z2;have u3:=(hg4.cell (i:=3) hz3 (by omega)).trans z3)
   all_goals go_ret
   all_goals simp only [beq_iff_eq,beq_eq_false_iff_ne] at*
   all_goals first|exact pm (by simpa using h6) (hd.out (by simp [cj, *])) ((hG.out.trans hg3).trans hg4) hs4|exact qG (by simpa using h6) (by simp [cj, *]) (by simp [vJ, *]<;>omega) (hG.out.trans hg3) hs3
  |w1::v1::st,hS,hw,hlen=>
   obtain ⟨hw1,hw2⟩:=hw w1 (by simp)
   obtain ⟨hv1,hv2⟩:=hw v1 (by simp)
   simp only [HN] at hlen
   have hN:=aa (lT wa g (v1::st).reverse w1 false (by rw [←List.reverse_cons];exact hS.out) (by simp;omega))
   clear hS hw hst
   go_enter func131,ntmps131
   go_wp2_with fail
   refine hN.out.mono ?_
   rintro e w3 ⟨rfl,hs3,hg3⟩
   have hz3:=Hr hl2 (hg3.size)
   have z0:=(hg3.cell (i:=0) hl2 (by omega)).trans x0
   have z2:=(hg3.cell (i:=2) hl2 (by omega)).trans x2
   have z3:=(hg3.cell (i:=3) hl2 (by omega)).trans x3
   go_wp2_with (go_at_call 167;refine (lT _ g st.reverse v1 false (by rw [←List.reverse_cons];exact hs3) (by simp;omega)).mono ?_;rintro e w4 ⟨rfl,hs4,hg4⟩;have u0:=(hg4.cell (i:=0) hz3 (by omega)).trans z0;have u2:=(hg4.cell (i:=2) hz3 (by omega)).trans z2;have u3:=(hg4.cell (i:=3) hz3 (by omega)).trans z3)
   all_goals go_ret
   all_goals simp only [beq_iff_eq,beq_eq_false_iff_ne,bne_iff_ne,bne_eq_false_iff_eq,HS,Bool.or_eq_false_iff,decide_eq_true_eq,decide_eq_false_iff_not,ne_eq,Decidable.not_not] at*
   all_goals first|exact qG (by simpa using h6) (by simp [cj, *]) (by simp [vJ, *]<;>omega) (hG.out.trans hg3) hs3|exact zL (by simpa using h6) (by simp [cj, *]) (by show _=ER op v1 w1;unfold ER;(repeat' split)<;>omega) ((hG.out.trans hg3).trans hg4) hs4
section
attribute [local go_sem ↓] cH
theorem jB (f:List Int→Nd→Option (List Int)):∀ (a b:List Nd) (st:List Int),bD f st (a++b)=match bD f st a with
  |none=>none
  |some s=>bD f s b
 | [],b,st=>rfl
 |n::a,b,st=>by
  simp only [List.cons_append,bD]
  cases f st n with
  |none=>rfl
  |some s=>exact jB f a b s
theorem lU {f:List Int→Nd→Option (List Int)} {c:List Nd} {k:Nat} {st st':List Int} (hk:k<c.length) (h:bD f [] (c.take k)=some st) (hn:f st c[k]=some st'):bD f [] (c.take (k+1))=some st':=by
 rw [H9 hk,jB,h]
 simp only [bD,hn]
theorem lV {f:List Int→Nd→Option (List Int)} {c:List Nd} {k:Nat} {st:List Int} (hk:k<c.length) (h:bD f [] (c.take k)=some st) (hn:f st c[k]=none):bD f [] c=none:=by
 have hc:c=c.take k++(c[k]::c.drop (k+1)):=by rw [List.getElem_cons_drop,Ig]
 rw [hc,jB,h]
 simp only [bD,hn]
theorem qH {p:Lp} {act:Int} {st:List Int} {n:Nd} {r:Int×List Int} (h:cT p act st n=some r):r.2.length≤st.length:=by
 unfold cT at h
 split at h
 ·cases h;exact Ht _
 ·split at h
  ·cases h
  ·split at h
   ·cases h;simp
   ·split at h
    ·cases h
    ·cases h;simp;omega
theorem zN {p:Lp} {act:Int} {st st':List Int} {n:Nd} (h:cU p act st n=some st'):st'.length≤st.length+1:=by
 unfold cU at h
 cases hd:cT p act st n with
 |none=>rw [hd] at h;cases h
 |some r=>
  obtain ⟨w,s⟩:=r
  have:=qH hd
  rw [hd] at h
  simp only at h this
  split at h
  ·injection h with h;subst h;simp;omega
  ·cases h
theorem qI {p:Lp} {act:Int}:∀ (c:List Nd) (st st':List Int),bD (cU p act) st c=some st'→st'.length≤st.length+c.length
 | [],st,st',h=>by simp only [bD] at h;injection h with h;subst h;simp
 |n::c,st,st',h=>by
  simp only [bD] at h
  cases hn:cU p act st n with
  |none=>rw [hn] at h;cases h
  |some s=>
   rw [hn] at h
   have h1:=qI c s st' h
   have h2:=zN hn
   simp only [HN];omega
theorem Sl.node {w:World} {B:Nat} {A:Option Addr} {c:List Nd} (h:Sl 6 zo w B A c) {i:Nat} (hi:i<c.length):∃ b o,A=some ⟨b,o,none⟩∧b<B∧w.cell? ⟨b,o+i*6,none⟩=some (.int .u8 c[i].op)∧w.cell? ⟨b,o+i*6+1,none⟩=some (.int .i64 c[i].w)∧w.cell? ⟨b,o+i*6+2,none⟩=some (.int .i64 c[i].a)∧w.cell? ⟨b,o+i*6+3,none⟩=some (.int .i64 c[i].b)∧w.cell? ⟨b,o+i*6+4,none⟩=some (.int .u64 c[i].hi)∧w.cell? ⟨b,o+i*6+5,none⟩=some (.int .u64 c[i].lo)∧u8 c[i].op∧aW c[i].hi∧aW c[i].lo:=by
 obtain ⟨b,o,ecs,hA,hb,hl,hc,rfl,h1,h2,h3⟩:=h.2 i c[i] (HA hi)
 exact ⟨b,o,hA,hb,hc 0 _ rfl,hc 1 _ rfl,hc 2 _ rfl,hc 3 _ rfl,hc 4 _ rfl,hc 5 _ rfl,h1,h2,h3⟩
def Cc (o:Option Int):Value:=.tuple #[.int .i64 (o.getD 0),.bool o.isSome]
theorem gQ (A1 A2 A3 A4 A5 A6 A7 A8 A9 A10 A11 A12:Option Addr) (p:Lp) (c1 c2 c3 c4 c5 c6 c7 c8 c9 c10 c11 c12:Nat) (act:Int) (c:List Nd) (A:Option Addr) (cap:Nat) (w:World) (h:cz w w.heap.size A1 A2 A3 A4 A5 A6 A7 A8 A9 A10 A11 A12 p) (hc:Sl 6 zo w w.heap.size A c):
  Calls prog 87 #[.agg (aO A1 A2 A3 A4 A5 A6 A7 A8 A9 A10 A11 A12 p c1 c2 c3 c4 c5 c6 c7 c8 c9 c10 c11 c12),.int .i64 act,.slice A c.length cap] w fun e w'=>e=.returned (Cc (eO p act c))∧Below w.heap.size w w':=by
 unfold aO
 have hlen:=hc.len
 obtain ⟨wz,hwz,hsz,hbz,hcz,-⟩:=af w (aO A1 A2 A3 A4 A5 A6 A7 A8 A9 A10 A11 A12 p c1 c2 c3 c4 c5 c6 c7 c8 c9 c10 c11 c12) 33
 replace hbz:=aa hbz
 by_cases h6:65536<c.length
 ·have h6z:(65536:Int)<(c.length:Int):=by omega
  have hv:=aa (show eO p act c=none from by simp [eO,B6,h6])
  clear hcz h hc
  go_enter func87,ntmps87
  go_wp2
  exact bodyPost_ret (results_tmp2 rfl _ _ _) rfl ⟨by rw [hv.out]<;>rfl,hbz.out⟩
 ·have h6z:¬(65536:Int)<(c.length:Int):=by omega
  obtain ⟨wa,hwa,hsa,hba,hca,hfa⟩:=af wz #[.slice none 0 0,.bool false] 191
  have Y:=fun i=>(bj hba w.heap.size i (by omega)).trans (hcz i)
  have hbw:Below w.heap.size w wa:=hbz.out.trans (hba.mono (by omega))
  have hst:jy wa (w.heap.size+1) [] false:=⟨.slice none 0 0,by rw [←hwa,←hsz];exact heap_alloc_last wz _,ci.nil_ _ _⟩
  have hP:=aa (h.below hbw)
  have hC:=aa (hc.below bm hbw)
  replace hbw:=aa hbw
  have hl2:w.heap.size+1<wa.heap.size:=by omega
  replace hsa:=aa hsa
  replace hst:=aa hst
  clear hca hcz hba h hc hfa
  go_enter func87,ntmps87
  go_wp2
  go_loopw [10,11,19] (fun _ _ i wr=>∃ (k:Nat) (st:List Int),k≤c.length∧i=.int .i64 k∧Hid (bD (cU p act) [] (c.take k)=some st)∧Hid (jy wr (w.heap.size+1) st.reverse false)∧Hid (Below (w.heap.size+1) wa wr)) (fun _ _ i _=>c.length-(intOf i).toNat)
  case atStart=>exact ⟨0,[],Hz _,rfl,aa rfl,hst,aa (Hs _ _)⟩
  case round=>
   obtain ⟨k,st,hk,rfl,hf,hS,hG⟩:=hrel
   have hwr:w.heap.size+1<wr.heap.size:=hS.out.lt
   have hgo:∀ W,Below (w.heap.size+1) wr W→Below w.heap.size w W:=fun W hW=>hbw.out.trans ((hG.out.trans hW).mono (by omega))
   by_cases hlt:k<c.length
   focus
    have hltz:(k:Int)<(c.length:Int):=by omega
    obtain ⟨b,o,rfl,hb,n0,n1,n2,n3,n4,n5,u1,u2,u3⟩:=(hC.out.below bm (hG.out.mono (by omega))).node hlt
    obtain ⟨wn,hwn,hsn,hbn,hcn,-⟩:=af wr #[.int .u8 c[k].op,.int .i64 c[k].w,.int .i64 c[k].a,.int .i64 c[k].b,.int .u64 c[k].hi,.int .u64 c[k].lo] 98
    have m0:wn.cell? ⟨wr.heap.size,0,none⟩=some (.int .u8 c[k].op):=hcn 0
    have m1:wn.cell? ⟨wr.heap.size,1,none⟩=some (.int .i64 c[k].w):=hcn 1
    have m2:wn.cell? ⟨wr.heap.size,2,none⟩=some (.int .i64 c[k].a):=hcn 2
    have m3:wn.cell? ⟨wr.heap.size,3,none⟩=some (.int .i64 c[k].b):=hcn 3
    have m4:wn.cell? ⟨wr.heap.size,4,none⟩=some (.int .u64 c[k].hi):=hcn 4
    have m5:wn.cell? ⟨wr.heap.size,5,none⟩=some (.int .u64 c[k].lo):=hcn 5
    have Yn:=fun i=>(bj hbn w.heap.size i (by omega)).trans ((bj hG.out w.heap.size i (by omega)).trans (Y i))
    have y0:=Yn 0
    have y1:=Yn 1
    have y2:=Yn 2
    have y3:=Yn 3
    have y4:=Yn 4
    have y5:=Yn 5
    have y6:=Yn 6
    have y7:=Yn 7
    have y8:=Yn 8
    have y9:=Yn 9
    have y10:=Yn 10
    have y11:=Yn 11
    simp only [HB,HC,HD] at y0 y1 y2 y3 y4 y5 y6 y7 y8 y9 y10 y11
    have hst60:st.length≤65536:=by have:=qI _ _ _ hf.out;simp at this;omega
    have hpos:=kZ _ _ _ hf.out (by simp)
    have hD:=zM A1 A2 A3 A4 A5 A6 A7 A8 A9 A10 A11 A12 p c1 c2 c3 c4 c5 c6 c7 c8 c9 c10 c11 c12 act c[k] st (w.heap.size+1) wn (((hP.out.below (hG.out.mono (by omega))).below (hbn.mono (by omega))).more (by omega)) ⟨u1,u2,u3⟩ (hS.out.below hbn) (fun x hx=>(aC x).1 (hpos x hx)) (by omega)
    have hwrn:wr.heap.size<wn.heap.size:=by omega
    have hgw:Below (w.heap.size+1) wr wn:=hbn.mono (by omega)
    have hA:=zs c[k]
    have hns:=aa (fun st' (h:cU p act st c[k]=some st')=>lU (st':=st') hlt hf.out h)
    have hnn:=aa (fun (h:cU p act st c[k]=none)=>show eO p act c=none from by unfold eO B6;rw [if_neg (by omega),lV hlt hf.out h];rfl)
    replace hgw:=aa hgw
    replace hsn:=aa hsn
    clear hbn hcn Yn hS hf hpos u1 u2 u3
    unfold cU at hns hnn
    unfold ia at hD
    cases hd:cT p act st c[k] with
    |none=>
     rw [hd] at hD
     replace hnn:=aa (hnn.out (by rw [hd]))
     clear hns
     replace hD:=aa hD
     go_wp2_with (go_at_call 131;refine hD.out.mono ?_;rintro e w3 ⟨hg3,⟨r,rfl⟩,l,hs3⟩;obtain ⟨v,s0,s1,f0,f1,hI⟩:=hs3.cells;have hl3:=hs3.lt)
     refine bodyPost_ret (results_tmp2 rfl _ _ _) rfl ⟨by rw [hnn.out]<;>rfl,hgo _ (hgw.out.trans (hg3.below (Ht _) (by omega)))⟩
    |some r=>
     obtain ⟨r,t1⟩:=r
     rw [hd] at hD
     have hlen1:=qH hd
     have hnn':=fun (h:¬(r=c[k].w∧aj r=true∧fh c[k]=true))=>hnn.out (by rw [hd];simp only [if_neg h])
     have hns':=fun (h:r=c[k].w∧aj r=true∧fh c[k]=true)=>hns.out (r::t1) (by rw [hd];simp only [if_pos h])
     clear hns hnn hd
     replace hD:=aa hD
     have hWd:=fun W=>iN r W
     generalize aj r=z1 at hnn' hns' hWd
     generalize fh c[k]=z2 at hnn' hns' hA
     by_cases e1:r=c[k].w
     ·subst e1
      cases z1 with
      |false=>
       replace hnn':=aa (hnn' fun g=>by cases g.2.1)
       clear hns' hA
       go_wp2_with (first|(go_at_call 131;refine hD.out.mono ?_;rintro e w3 ⟨hg3,rfl,hs3⟩;obtain ⟨v,s0,s1,f0,f1,hI⟩:=hs3.cells;have hl3:=hs3.lt;have q0:=(hg3.cell (i:=0) hwrn (by omega)).trans m0;have q1:=(hg3.cell (i:=1) hwrn (by omega)).trans m1;have q2:=(hg3.cell (i:=2) hwrn (by omega)).trans m2;have q3:=(hg3.cell (i:=3) hwrn (by omega)).trans m3;have q4:=(hg3.cell (i:=4) hwrn (by omega)).trans m4;have q5:=(hg3.cell (i:=5) hwrn (by omega)).trans m5;have q6:=Hr hwrn hg3.size)|(go_at_call 82;refine (hWd _).mono ?_;rintro e w' ⟨rfl,rfl⟩))
       refine bodyPost_ret (results_tmp2 rfl _ _ _) rfl ⟨by rw [hnn'.out]<;>rfl,hgo _ (hgw.out.trans (hg3.below (Ht _) (by omega)))⟩
      |true=>
       cases z2 with
       |false=>
        replace hnn':=aa (hnn' fun g=>by cases g.2.2)
        clear hns'
        go_wp2_with (first|(go_at_call 131;refine hD.out.mono ?_;rintro e w3 ⟨hg3,rfl,hs3⟩;obtain ⟨v,s0,s1,f0,f1,hI⟩:=hs3.cells;have hl3:=hs3.lt;have q0:=(hg3.cell (i:=0) hwrn (by omega)).trans m0;have q1:=(hg3.cell (i:=1) hwrn (by omega)).trans m1;have q2:=(hg3.cell (i:=2) hwrn (by omega)).trans m2;have q3:=(hg3.cell (i:=3) hwrn (by omega)).trans m3;have q4:=(hg3.cell (i:=4) hwrn (by omega)).trans m4;have q5:=(hg3.cell (i:=5) hwrn (by omega)).trans m5;have q6:=Hr hwrn hg3.size)|(go_at_call 82;refine (hWd _).mono ?_;rintro e w' ⟨rfl,rfl⟩)|(go_at_call 132;refine (hA _).mono ?_;rintro e w4 ⟨rfl,hb4⟩))
        refine bodyPost_ret (results_tmp2 rfl _ _ _) rfl ⟨by rw [hnn'.out]<;>rfl,hgo _ ((hgw.out.trans (hg3.below (Ht _) (by omega))).trans (hb4.mono (by omega)))⟩
       |true=>
        replace hns':=aa (hns' ⟨rfl,rfl,rfl⟩)
        clear hnn'
        go_upto_region 10 with (first|(go_at_call 131;refine hD.out.mono ?_;rintro e w3 ⟨hg3,rfl,hs3⟩;have hl3:=hs3.lt;obtain ⟨v,hh,hI⟩:=hs3;have s0:w3.cell? ⟨w.heap.size+1,0,none⟩=some v:=(by simp [World.cell?,hh]);have s1:w3.cell? ⟨w.heap.size+1,1,none⟩=some (.bool false):=(by simp [World.cell?,hh]);have f0:w3.frozen? ⟨w.heap.size+1,0,none⟩=false:=(by simp [World.frozen?,hh]);replace hh:=aa hh;have q0:=(hg3.cell (i:=0) hwrn (by omega)).trans m0;have q1:=(hg3.cell (i:=1) hwrn (by omega)).trans m1;have q2:=(hg3.cell (i:=2) hwrn (by omega)).trans m2;have q3:=(hg3.cell (i:=3) hwrn (by omega)).trans m3;have q4:=(hg3.cell (i:=4) hwrn (by omega)).trans m4;have q5:=(hg3.cell (i:=5) hwrn (by omega)).trans m5;have q6:=Hr hwrn hg3.size)|(go_at_call 82;refine (hWd _).mono ?_;rintro e w' ⟨rfl,rfl⟩)|(go_at_call 132;refine (hA _).mono ?_;rintro e w4 ⟨rfl,hb4⟩))
        obtain ⟨Av,cv,rfl⟩:=hI.form
        obtain ⟨v',w',hr,hI',hB'⟩:=iV c[k].w (hI.below hb4 (Ht _)) (Hw hl3 hb4.size) (by simp [dX];omega)
        obtain ⟨Au,cu,rfl⟩:=hI'.form
        have hS':=aa (jy.set0 hh.out ((hb4.mono hl3).trans hB') hI')
        have hB2:Below (w.heap.size+1) w4 (w'.setCell ⟨w.heap.size+1,0,none⟩ (.slice Au (t1.reverse++ [c[k].w]).length cu)):=(hB'.mono (Nat.le_succ _)).setCell (Ht (w.heap.size+1)) _
        have hB3:=aa ((hg3.below (Ht _) (by omega)).trans ((hb4.mono (HL hl3)).trans hB2))
        clear hB2
        have s04:=(hb4.cell (p:=⟨w.heap.size+1,0,none⟩) hl3).trans s0
        have f04:=(hb4.frozen (p:=⟨w.heap.size+1,0,none⟩) hl3).trans f0
        have s05:=(hB'.cell (p:=⟨w.heap.size+1,0,none⟩) (HV _)).trans s04
        have f05:=(hB'.frozen (p:=⟨w.heap.size+1,0,none⟩) (HV _)).trans f04
        have hl4:=Hr hl3 hb4.size
        have hl5:=Hr hl4 hB'.size
        simp only [HM,List.length_reverse,HN,List.length_nil,H3] at hr hS' hB3 s04 s05
        clear hI hI' hB' hb4 hg3 s0 s1 f0
        go_wp2
        go_roundw
        case rel=>exact ⟨k+1,c[k].w::t1,by omega,by go_num,hns',by rw [List.reverse_cons];exact hS',aa (hG.out.trans (hgw.out.trans hB3.out))⟩
        case measure=>simp [intOf];omega
     ·replace hnn':=aa (hnn' fun g=>e1 g.1)
      clear hns'
      go_wp2_with (go_at_call 131;refine hD.out.mono ?_;rintro e w3 ⟨hg3,rfl,hs3⟩;obtain ⟨v,s0,s1,f0,f1,hI⟩:=hs3.cells;have hl3:=hs3.lt;have q1:=(hg3.cell (i:=1) hwrn (by omega)).trans m1;have q0:=Hr hwrn hg3.size)
      refine bodyPost_ret (results_tmp2 rfl _ _ _) rfl ⟨by rw [hnn'.out]<;>rfl,hgo _ (hgw.out.trans (hg3.below (Ht _) (by omega)))⟩
   rotate_right
   focus
    have hke:k=c.length:=by omega
    subst hke
    rw [H7] at hf
    obtain ⟨v,s0,s1,f0,f1,hI⟩:=hS.out.cells
    obtain ⟨A',cap',rfl,hSl⟩:=hI.sl
    have hv:=aa (show eO p act c=qh (some st) from by unfold eO B6;rw [if_neg (by omega),hf.out])
    have hbE:=aa (hgo _ (Hs _ _))
    have hx:st.length=1→∃ x,st= [x]:=fun h=>by
     match st,h with
     | [x],_=>exact ⟨x,rfl⟩
    simp only [List.length_reverse] at s0
    by_cases h1:st.length=1
    focus
     obtain ⟨x,rfl⟩:=hx h1
     obtain ⟨b,o,rfl,hb,hcx⟩:=hSl.int (i:=0) (by simp)
     simp only [List.reverse_cons,List.reverse_nil,List.nil_append,List.getElem_cons_zero,Nat.add_zero] at hcx
    rotate_right
    focus
     have hne:((st.length:Int) !=1)=true:=by rw [bne_iff_ne];omega
     have hl0:qh (some st)=none:=by
      match st,h1 with
      | [],_=>rfl
      | [x],h1=>exact absurd rfl h1
      |x::y::l,_=>rfl
     rw [hl0] at hv
   all_goals
    clear hx hSl hI hS
    go_wp2
    exact bodyPost_ret (results_tmp2 rfl _ _ _) rfl ⟨by rw [hv.out]<;>rfl,hbE.out⟩
end
theorem di {α:Type} (l:List α) (i:Int):(∃ k:Nat,i=k∧∃ h:k<l.length,eC l i=some l[k])∨(eC l i=none∧dC l.length i=false∧¬(0≤i∧i<l.length)):=by
 by_cases h:0≤i∧i<l.length
 ·obtain ⟨k,rfl⟩:=HH h.1
  exact .inl ⟨k,rfl,by omega,il k (by omega)⟩
 ·exact .inr ⟨Sl.nth_no h,bS h,h⟩
theorem th (A1 A2 A3 A4 A5 A6 A7 A8 A9 A10 A11 A12:Option Addr) (p:Lp) (c1 c2 c3 c4 c5 c6 c7 c8 c9 c10 c11 c12:Nat) (act:Int) (n:Nd) (w:World) (h:cz w w.heap.size A1 A2 A3 A4 A5 A6 A7 A8 A9 A10 A11 A12 p) (hn:aW n.hi∧aW n.lo):Calls prog 108 #[.agg (aO A1 A2 A3 A4 A5 A6 A7 A8 A9 A10 A11 A12 p c1 c2 c3 c4 c5 c6 c7 c8 c9 c10 c11 c12),.int .i64 act,.agg #[.int .u8 n.op,.int .i64 n.w,.int .i64 n.a,.int .i64 n.b,.int .u64 n.hi,.int .u64 n.lo]] w fun e w'=>e=.returned (.int .i64 (vI p act n))∧Below w.heap.size w w':=by
 unfold aO
 obtain ⟨op,nw,a,b,hi,lo⟩:=n
 simp only at hn ⊢
 obtain ⟨wz,hwz,hsz,hbz,hcz,-⟩:=af w (aO A1 A2 A3 A4 A5 A6 A7 A8 A9 A10 A11 A12 p c1 c2 c3 c4 c5 c6 c7 c8 c9 c10 c11 c12) 33
 obtain ⟨wa,hwa,hsa,hba,hca,-⟩:=af wz #[.int .u8 op,.int .i64 nw,.int .i64 a,.int .i64 b,.int .u64 hi,.int .u64 lo] 98
 have Y:=fun i=>(bj hba w.heap.size i (by omega)).trans (hcz i)
 have y0:=Y 0
 have y1:=Y 1
 have y3:=Y 3
 simp only [HB,HC,HD] at y0 y1 y3
 rw [hsz] at hca
 have x0:wa.cell? ⟨w.heap.size+1,0,none⟩=some (.int .u8 op):=hca 0
 have x1:wa.cell? ⟨w.heap.size+1,1,none⟩=some (.int .i64 nw):=hca 1
 have x2:wa.cell? ⟨w.heap.size+1,2,none⟩=some (.int .i64 a):=hca 2
 have x3:wa.cell? ⟨w.heap.size+1,3,none⟩=some (.int .i64 b):=hca 3
 have x4:wa.cell? ⟨w.heap.size+1,4,none⟩=some (.int .u64 hi):=hca 4
 have x5:wa.cell? ⟨w.heap.size+1,5,none⟩=some (.int .u64 lo):=hca 5
 have hl1:w.heap.size<wa.heap.size:=by omega
 have hl2:w.heap.size+1<wa.heap.size:=by omega
 have hw:Below w.heap.size w wa:=hbz.trans (hba.mono (by omega))
 have hS:=(h.below hw).more hw.size
 have hA1:=aa hS.heads
 have hA2:=aa hS.metas
 have hA4:=aa hS.acts
 have lA1:=hS.heads.len
 have lA4:=hS.acts.len
 replace hw:=aa hw
 replace hsa:=aa hsa
 have hw':=aa (fun o=>hw.out.alloc hw.out.size o)
 have hI':=aa (fun (l:List Int) (A':Option Addr) (g:Sl 1 bc wa wa.heap.size A' l) (o:Obj)=>(g.alloc ah (Ht _) o).more (B':=(wa.alloc o).heap.size) ah (by simp))
 clear hca hcz hba hbz h hS Y
 have hv:=aa (show vI p act ⟨op,nw,a,b,hi,lo⟩=if op=1 then (if a=0∧b=0∧aj nw=true∧bJ nw hi lo=true then nw else 0) else if ¬(hi=0∧lo=0)∨(op≠2∧b≠0) then 0 else eD p act op a b from rfl)
 go_enter func108,ntmps108
 by_cases o1:op=1
 ·subst o1
  have hF:=fun W=>fS hi lo nw W hn
  have hK:=o0 nw
  generalize bJ nw hi lo=F at hF hv
  generalize aj nw=K at hK hv
  replace hF:=aa hF
  by_cases ha:a=0
  ·subst ha
   by_cases hb:b=0
   ·subst hb
    cases K<;>cases F
    all_goals go_wp2_with (first|(go_at_call 103;refine (hK _).mono ?_;rintro e w' ⟨rfl,rfl⟩)|(go_at_call 107;refine (hF.out _).mono ?_;rintro e w3 ⟨rfl,hb3⟩;have kb3:=fd hb3;have q1:=Hr hl2 (Hw (by simp) hb3.size);replace hb3:=aa hb3))
    all_goals go_ret
    all_goals first|exact ⟨av (by rw [hv.out];simp),hw'.out _⟩|exact ⟨av (by rw [hv.out];simp),(hw'.out _).trans (hb3.out.mono (hw'.out _).size)⟩
   ·go_wp2
    go_ret
    exact ⟨av (by rw [hv.out];simp [hb]),hw'.out _⟩
  ·go_wp2
   go_ret
   exact ⟨av (by rw [hv.out];simp [ha]),hw'.out _⟩
 ·rw [if_neg o1] at hv
  by_cases k1:hi=0∧lo=0
  ·obtain ⟨rfl,rfl⟩:=k1
   by_cases k2:op≠2∧b≠0
   ·rw [if_pos (.inr k2)] at hv
    obtain ⟨k2,k3⟩:=k2
    have k4:(op !=2)=true:=bne_iff_ne.2 k2
    have k5:(b !=0)=true:=bne_iff_ne.2 k3
    go_wp2
    go_ret
    exact ⟨av hv.out.symm,hw'.out _⟩
   ·rw [if_neg (by simp only [and_self,not_true_eq_false,false_or];exact k2)] at hv
    by_cases o2:op=2
    ·subst o2
     rcases di p.heads a with ⟨k,rfl,hk,e1⟩|⟨e1,e2,e3⟩
     ·obtain ⟨g,o,A',c',rfl,hg,hcl,hsl⟩:=hA1.out.ints hk
      have hkz:(k:Int)<(p.heads.length:Int):=by omega
      have hv2:=aa (show eD p act 2 (k:Int) b=pS p.heads[k] b from by simp [eD,e1])
      replace hsl:=aa hsl
      go_wp2_with fail
      go_quiet ((go_at_call 144;exact cZ (o8 _ _ _ _ _ (((hI'.out _ _ hsl.out _).drewN ah _).more ah (by simp)))))
      go_wp2
      go_ret
      exact ⟨av (by rw [hv.out,hv2.out]),au (hw'.out _) _⟩
     ·have hv2:=aa (show eD p act 2 a b=0 from by simp [eD,e1,oY])
      by_cases ha:0≤a
      ·have hax:¬a<(p.heads.length:Int):=by omega
       go_wp2
       go_ret
       exact ⟨av (by rw [hv.out,hv2.out]),hw'.out _⟩
      ·go_wp2
       go_ret
       exact ⟨av (by rw [hv.out,hv2.out]),hw'.out _⟩
    ·have hb:b=0:=by
      by_cases hb:b=0
      ·exact hb
      ·exact absurd ⟨o2,hb⟩ k2
     subst hb
     by_cases o3:op=3
     ·subst o3
      go_wp2_with (go_at_call 144;refine (o8 _ _ _ _ _ (hI'.out _ _ hA2.out _)).mono ?_;rintro e w' ⟨rfl,rfl⟩)
      go_ret
      exact ⟨av (by rw [hv.out];rfl),hw'.out _⟩
     ·by_cases o4:op=4
      ·subst o4
       rcases di p.acts act with ⟨k,rfl,hk,e1⟩|⟨e1,e2,e3⟩
       ·obtain ⟨g,o,ecs,rfl,hg,hn',hcell,B1,B2,d1,d2,rfl,hs1,hs2⟩:=hA4.out.2 k _ (HA hk)
        have t0:wa.cell? ⟨g,o+k*2,none⟩=some (.slice B1 p.acts[k].params.length d1):=hcell 0 _ rfl
        have t1:wa.cell? ⟨g,o+k*2+1,none⟩=some (.slice B2 p.acts[k].body.length d2):=hcell 1 _ rfl
        have hkz:(k:Int)<(p.acts.length:Int):=by omega
        have hv2:=aa (show eD p (k:Int) 4 a 0=pS p.acts[k].params a from by simp [eD,e1])
        replace hs1:=aa hs1
        clear hcell hs2
        go_wp2_with fail
        go_quiet ((go_at_call 144;exact cZ (o8 _ _ _ _ _ (((hI'.out _ _ hs1.out _).drewN ah _).more ah (by simp)))))
        go_wp2
        go_ret
        exact ⟨av (by rw [hv.out,hv2.out]),au (hw'.out _) _⟩
       ·have hv2:=aa (show eD p act 4 a 0=0 from by simp [eD,e1,oY])
        by_cases ha:0≤act
        ·have hax:¬act<(p.acts.length:Int):=by omega
         go_wp2
         go_ret
         exact ⟨av (by rw [hv.out,hv2.out]),hw'.out _⟩
        ·go_wp2
         go_ret
         exact ⟨av (by rw [hv.out,hv2.out]),hw'.out _⟩
      ·by_cases o5:op=5
       ·subst o5
        by_cases ha:a=0
        ·subst ha
         go_wp2
         go_ret
         exact ⟨av (by rw [hv.out];rfl),hw'.out _⟩
        ·go_wp2
         go_ret
         exact ⟨av (by rw [hv.out];simp [eD,ha]),hw'.out _⟩
       ·by_cases o6:op=6
        ·subst o6
         rcases di p.heads a with ⟨k,rfl,hk,e1⟩|⟨e1,e2,e3⟩
         ·have hkz:(k:Int)<(p.heads.length:Int):=by omega
          go_wp2
          go_ret
          exact ⟨av (by rw [hv.out];simp [eD,eF hk]),hw'.out _⟩
         ·by_cases ha:0≤a
          ·have hax:¬a<(p.heads.length:Int):=by omega
           go_wp2
           go_ret
           exact ⟨av (by rw [hv.out];simp [eD,e2]),hw'.out _⟩
          ·go_wp2
           go_ret
           exact ⟨av (by rw [hv.out];simp [eD,e2]),hw'.out _⟩
        ·go_wp2
         go_ret
         exact ⟨av (by rw [hv.out];simp [eD,o2,o3,o4,o5,o6]),hw'.out _⟩
  ·rw [if_pos (.inl k1)] at hv
   by_cases k2:hi=0
   ·have k3:¬lo=0:=fun g=>k1 ⟨k2,g⟩
    subst k2
    go_wp2
    go_ret
    exact ⟨av hv.out.symm,hw'.out _⟩
   ·go_wp2
    go_ret
    exact ⟨av hv.out.symm,hw'.out _⟩
theorem jQ (n:Nd) (v:Int) (w:World) (h1:cj n.op=true) (hv:1≤v∧v≤128):Calls prog 109 #[.agg #[.int .u8 n.op,.int .i64 n.w,.int .i64 n.a,.int .i64 n.b,.int .u64 n.hi,.int .u64 n.lo],.int .i64 v] w fun e w'=>e=.returned (.int .i64 (oS n v))∧Below w.heap.size w w':=by
 obtain ⟨hv1,hv2⟩:=hv
 obtain ⟨op,nw,a,b,hi,lo⟩:=n
 simp only
 obtain ⟨wa,hwa,hsa,hba,hca,-⟩:=af w #[.int .u8 op,.int .i64 nw,.int .i64 a,.int .i64 b,.int .u64 hi,.int .u64 lo] 98
 have x0:wa.cell? ⟨w.heap.size,0,none⟩=some (.int .u8 op):=hca 0
 have x2:wa.cell? ⟨w.heap.size,2,none⟩=some (.int .i64 a):=hca 2
 have x3:wa.cell? ⟨w.heap.size,3,none⟩=some (.int .i64 b):=hca 3
 have hlt:w.heap.size<wa.heap.size:=by omega
 replace hba:=aa hba
 replace hsa:=aa hsa
 clear hca
 simp only [cj,HS,decide_eq_true_eq] at h1
 have hop:op=7∨op=8∨op=9∨op=13∨op=14:=by omega
 go_enter func109,ntmps109
 rcases hop with rfl|rfl|rfl|rfl|rfl
 all_goals
  go_wp2
  all_goals go_ret
  all_goals refine ⟨av ?_,hba.out⟩
  all_goals try simp only [beq_iff_eq,beq_eq_false_iff_ne,bne_iff_ne,bne_eq_false_iff_eq,HS,Bool.or_eq_false_iff,Hy,Ib,decide_eq_true_eq,decide_eq_false_iff_not,ne_eq,Decidable.not_not] at*
  all_goals (unfold oS;(repeat' split)<;>first|omega|(simp_all<;>omega))
theorem wF (n:Nd) (v u:Int) (w:World) (hv:1≤v∧v≤128) (hu:1≤u∧u≤128):Calls prog 110 #[.agg #[.int .u8 n.op,.int .i64 n.w,.int .i64 n.a,.int .i64 n.b,.int .u64 n.hi,.int .u64 n.lo],.int .i64 v,.int .i64 u] w fun e w'=>e=.returned (.int .i64 (DK n v u))∧Below w.heap.size w w':=by
 obtain ⟨hv1,hv2⟩:=hv
 obtain ⟨hu1,hu2⟩:=hu
 obtain ⟨op,nw,a,b,hi,lo⟩:=n
 simp only
 obtain ⟨wa,hwa,hsa,hba,hca,-⟩:=af w #[.int .u8 op,.int .i64 nw,.int .i64 a,.int .i64 b,.int .u64 hi,.int .u64 lo] 98
 have x0:wa.cell? ⟨w.heap.size,0,none⟩=some (.int .u8 op):=hca 0
 have x2:wa.cell? ⟨w.heap.size,2,none⟩=some (.int .i64 a):=hca 2
 have x3:wa.cell? ⟨w.heap.size,3,none⟩=some (.int .i64 b):=hca 3
 have hlt:w.heap.size<wa.heap.size:=by omega
 replace hba:=aa hba
 replace hsa:=aa hsa
 clear hca
 go_enter func110,ntmps110
 go_wp2
 all_goals go_ret
 all_goals refine ⟨av ?_,hba.out⟩
 all_goals try simp only [beq_iff_eq,beq_eq_false_iff_ne,bne_iff_ne,bne_eq_false_iff_eq,HS,Bool.or_eq_false_iff,Hy,Ib,decide_eq_true_eq,decide_eq_false_iff_not,ne_eq,Decidable.not_not] at*
 all_goals (unfold DK;(repeat' split)<;>first|omega|(simp_all<;>omega))
def ga (x:Int×Int) (w:Int):Bool:=bJ w x.1 x.2
theorem zO (x:Int×Int) (y:Int) (W:World) (h:aW x.1∧aW x.2):Calls prog 133 #[.agg #[.int .u64 x.1,.int .u64 x.2],.int .i64 y] W fun e w'=>e=.returned (.bool (ga x y))∧Below W.heap.size W w':=cA x.1 x.2 y W h
theorem ti (A A':Option Addr) (cap cap':Nat) (xs:List (Int×Int)) (ys:List Int) (w:World) (h:Sl 2 f8 w w.heap.size A xs) (h':Sl 1 bc w w.heap.size A' ys):
  Calls prog 138 #[.slice A xs.length cap,.slice A' ys.length cap',.func (.func 133) #[] #[]] w fun e w'=>e=.returned (.bool (dr ga xs ys))∧Below w.heap.size w w':=by
 have hl:=h.len
 have hl':=h'.len
 have eg:∀ args w,(callFunc 133 args).run prog w=.ok (.enter 133 args) w:=enters_of func133 (by kernel_rfl) rfl
 go_enter func138,ntmps138
 by_cases he:xs.length=ys.length
 ·have hez:((xs.length:Int) !=(ys.length:Int))=false:=by rw [he];exact bne_self_eq_false _
  have hv:=aa (show dr ga xs ys=ar (fun i=>aZ (fun x=>aZ (ga x) ys i) xs i) xs.length from by unfold dr;rw [decide_eq_true he,Hx])
  replace he:=aa he
  go_wp2
  go_loopw [7,8,9,17] (fun _ _ _ i wr=>∃ k:Nat,k≤xs.length∧i=.int .i64 k∧Hid (ar (fun i=>aZ (fun x=>aZ (ga x) ys i) xs i) k=true)∧Hid (Below w.heap.size w wr)) (fun _ _ _ i _=>xs.length-(intOf i).toNat)
  case atStart=>exact ⟨0,Hz _,rfl,aa rfl,aa (Hs _ _)⟩
  case round=>
   obtain ⟨k,hk,rfl,hc,hbr⟩:=hrel
   by_cases hlt:k<xs.length
   ·have hlt':k<ys.length:=by have:=he.out;omega
    have hkz:(k:Int)<(xs.length:Int):=by omega
    have hkz':(k:Int)<(ys.length:Int):=by omega
    obtain ⟨b,o,ecs,rfl,hb,hn,hcell,rfl,hy⟩:=h.2 k _ (HA hlt)
    obtain ⟨b',o',rfl,hb',hc'⟩:=h'.int hlt'
    have hcw:=fun j u hu=>(hbr.out.cell (p:=⟨b,o+k*2+j,none⟩) hb).trans (hcell j u hu)
    have yc:=(hbr.out.cell (p:=⟨b',o'+k,none⟩) hb').trans hc'
    have hstep:ar (fun i=>aZ (fun x=>aZ (ga x) ys i) xs i) (k+1)=ga xs[k] ys[k]:=by
     rw [ar,hc.out,Hx,am _ hlt,am _ hlt']
    have hwr:=hbr.out.size
    clear h h' hcell hc
    generalize hxk:xs[k]=x at*
    generalize hyk:ys[k]=y at*
    have x0:wr.cell? ⟨b,o+k*2,none⟩=some (.int .u64 x.1):=by simpa using hcw 0 _ rfl
    have x1:wr.cell? ⟨b,o+k*2+1,none⟩=some (.int .u64 x.2):=hcw 1 _ rfl
    obtain ⟨wn,hwn,hsn,hbn,hcn,-⟩:=af wr #[.int .u64 x.1,.int .u64 x.2] 96
    have m0:wn.cell? ⟨wr.heap.size,0,none⟩=some (.int .u64 x.1):=hcn 0
    have m1:wn.cell? ⟨wr.heap.size,1,none⟩=some (.int .u64 x.2):=hcn 1
    have ycn:=(hbn.cell (p:=⟨b',o'+k,none⟩) (Hr hb' hwr)).trans yc
    have hK:=zO x y wn hy
    have hlo:=aa (fun (g:ga x y=false)=>show ar (fun i=>aZ (fun x=>aZ (ga x) ys i) xs i) xs.length=false from ba hlt (by rw [am _ hlt,am _ hlt',hxk,hyk];exact g))
    have hbw:=aa (hbr.out.trans (hbn.mono hwr))
    have hwn2:wr.heap.size<wn.heap.size:=by omega
    replace hsn:=aa hsn
    replace hstep:=aa hstep
    clear hcn hbn hbr hcw
    generalize ga x y=F at hK hstep hlo
    replace hK:=aa hK
    cases F with
    |false=>
     replace hlo:=aa (hlo.out rfl)
     go_wp2_with (go_at_fn 133;refine hK.out.mono ?_;rintro e w3 ⟨rfl,hb3⟩)
     go_ret
     exact ⟨ad (by rw [hv.out,hlo.out]),hbw.out.trans (hb3.mono (by have:=hbw.out.size;omega))⟩
    |true=>
     go_wp2_with (go_at_fn 133;refine hK.out.mono ?_;rintro e w3 ⟨rfl,hb3⟩)
     go_roundw
     case rel=>exact ⟨k+1,by omega,by go_num,hstep,aa (hbw.out.trans (hb3.mono (by have:=hbw.out.size;omega)))⟩
     case measure=>simp [intOf];omega
   ·have hke:k=xs.length:=by omega
    subst hke
    go_wp2
    go_ret
    exact ⟨ad (by rw [hv.out,hc.out]),hbr.out⟩
 ·have hez:((xs.length:Int) !=(ys.length:Int))=true:=by rw [bne_iff_ne];omega
  have hv:=aa (show dr ga xs ys=false from by unfold dr;rw [decide_eq_false he,Hu])
  clear h h'
  go_wp2
  go_ret
  exact ⟨ad hv.out.symm,Hs _ _⟩
theorem lW (A:Option Addr) (cap:Nat) (xs:List Int) (n:Int) (w:World) (h:Sl 1 bc w w.heap.size A xs):
  Calls prog 85 #[.slice A xs.length cap,.int .i64 n] w fun e w'=>e=.returned (.int .i64 (bo xs n))∧w=w':=by
 have hl:=h.len
 go_enter func85,ntmps85
 go_wp2
 go_loop [8] (fun i=>∃ k:Nat,k≤xs.length∧i=.int .i64 k∧n∉xs.take k) (fun i=>xs.length-(intOf i).toNat)
 case atStart=>exact ⟨0,Hz _,rfl,by simp⟩
 case round=>
  obtain ⟨k,hk,rfl,hc⟩:=hrel
  by_cases hlt:k<xs.length
  ·obtain ⟨b,o,rfl,hb,hcell⟩:=h.int hlt
   clear h
   by_cases he:xs[k]=n
   ·have ht:(n==xs[k])=true:=by simp [he]
    have hv:=aa (kN hlt hc he)
    clear he
    go_wp2
    go_ret
    exact ⟨av hv.out.symm,rfl⟩
   ·have ht:(n==xs[k])=false:=by simp;exact fun e=>he e.symm
    have hv:=aa (dK hlt hc he)
    clear he
    go_wp2
    go_round
    case rel=>exact ⟨k+1,by omega,by go_num,hv.out⟩
    case measure=>simp [intOf];omega
  ·have hv:=aa (pZ (eB hk hlt hc))
   go_wp2
   go_ret
   exact ⟨av hv.out.symm,rfl⟩
theorem pn {α:Type} [DecidableEq α] (l:List α) (a:α):decide (0≤bo l a)=decide (a∈l):=by
 unfold bo
 by_cases h:a∈l<;>simp [h]
theorem dQ (A:Option Addr) (cap:Nat) (xs:List Int) (n:Int) (w:World) (h:Sl 1 bc w w.heap.size A xs):
  Calls prog 137 #[.slice A xs.length cap,.int .i64 n] w fun e w'=>e=.returned (.bool (decide (n∈xs)))∧w=w':=by
 have hv:=aa (pn xs n)
 go_enter func137,ntmps137
 go_wp2_with (go_at_call 85;refine (lW _ _ _ _ _ h).mono ?_;rintro e w' ⟨rfl,rfl⟩)
 go_ret
 exact ⟨ad hv.out,rfl⟩
theorem lX (A:Option Addr) (cap:Nat) (xs:List Int) (n:Int) (w:World) (h:Sl 1 bc w w.heap.size A xs):
  Calls prog 104 #[.slice A xs.length cap,.int .i64 n] w fun e w'=>e=.returned (.bool (decide (n∈xs)))∧w=w':=by
 have hl:=h.len
 go_enter func104,ntmps104
 go_wp2
 go_loop [5] (fun i=>∃ k:Nat,k≤xs.length∧i=.int .i64 k∧n∉xs.take k) (fun i=>xs.length-(intOf i).toNat)
 case atStart=>exact ⟨0,Hz _,rfl,by simp⟩
 case round=>
  obtain ⟨k,hk,rfl,hc⟩:=hrel
  by_cases hlt:k<xs.length
  ·obtain ⟨b,o,rfl,hb,hcell⟩:=h.int hlt
   have hltz:(k:Int)<(xs.length:Int):=by omega
   clear h
   by_cases he:xs[k]=n
   ·have ht:(xs[k]==n)=true:=by simp [he]
    have hv:=aa (show n∈xs from by rw [←he];exact HE _)
    clear he
    go_wp2
    go_ret
    exact ⟨ad (decide_eq_true hv.out).symm,rfl⟩
   ·have ht:(xs[k]==n)=false:=by simp;exact he
    have hv:=aa (dK hlt hc he)
    clear he
    go_wp2
    go_round
    case rel=>exact ⟨k+1,by omega,by go_num,hv.out⟩
    case measure=>simp [intOf];omega
  ·have hv:=aa (eB hk hlt hc)
   go_wp2
   go_ret
   exact ⟨ad (decide_eq_false hv.out).symm,rfl⟩
end Go.Proofs.YtijcdfdbkffiaaaGreatDoor

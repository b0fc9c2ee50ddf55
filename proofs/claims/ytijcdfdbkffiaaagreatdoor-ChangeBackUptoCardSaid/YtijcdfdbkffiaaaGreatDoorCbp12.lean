import Derived.Test.YtijcdfdbkffiaaaGreatDoorCbp11
set_option linter.all false
set_option maxHeartbeats 8000000
set_option maxRecDepth 100000
open Go.Proofs.Tryz
namespace Go.Proofs.YtijcdfdbkffiaaaGreatDoor
open _root_.Nat renaming lt_of_lt_of_le→Hr, le_refl→Ht, le_trans→Hw, zero_le→Hz, zero_add→H3
open _root_.Go.RowKit.Below renaming refl→Hs
open _root_.Bool renaming false_and→Hu, true_and→Hx, eq_iff_iff→HF, false_eq_true→H2
open _root_.List renaming getElem?_eq_getElem→HA, getElem?_toArray→HB, getElem?_cons_zero→HC, getElem?_cons_succ→HD, getElem_mem→HE, length_append→HM, length_cons→HN, take_length→H7, take_succ_eq_append_getElem→H9, take_append_drop→Ig
open _root_.Int renaming eq_ofNat_of_zero_le→HH
open Go.RowKit
section
attribute [local go_sem ↓] cH
theorem px (f:List Nd→Option Int):∀ (a b:List (List Nd)),f6 f (a++b)=match f6 f a with
  |none=>none
  |some ws=>(f6 f b).map (ws++ ·)
 | [],b=>by simp only [List.nil_append,f6];cases f6 f b<;>rfl
 |c::a,b=>by
  simp only [List.cons_append,f6,px f a b]
  cases f c with
  |none=>rfl
  |some w=>
   simp only
   cases f6 f a with
   |none=>rfl
   |some ws=>simp only [Option.map_some];cases f6 f b<;>rfl
theorem Aq {f:List Nd→Option Int} {l:List (List Nd)} {k:Nat} {ws:List Int} {x:Int} (hk:k<l.length) (h:f6 f (l.take k)=some ws) (hx:f l[k]=some x):f6 f (l.take (k+1))=some (ws++ [x]):=by
 rw [H9 hk,px,h]
 simp only [f6,hx,Option.map_some]
theorem Ar {f:List Nd→Option Int} {l:List (List Nd)} {k:Nat} {ws:List Int} (hk:k<l.length) (h:f6 f (l.take k)=some ws) (hx:f l[k]=none):f6 f l=none:=by
 have hc:l=l.take k++(l[k]::l.drop (k+1)):=by rw [List.getElem_cons_drop,Ig]
 rw [hc,px,h]
 simp only [f6,hx,Option.map_none]
def rh (p:Lp) (l:List (List Nd)) (base:Nat) (e:Ending) (w':World):Prop:=match f6 (eO p (-1)) l with
 |none=>e=.returned (.tuple #[.slice none 0 0,.bool false])
 |some ws=>∃ B cp,e=.returned (.tuple #[.slice B ws.length cp,.bool (decide (l.length≤4))])∧ci w' base (.slice B ws.length cp) ws
theorem Sl.code {w:World} {B:Nat} {A:Option Addr} {l:List (List Nd)} (h:Sl 1 pT w B A l) {i:Nat} (hi:i<l.length):∃ b o A' c',A=some ⟨b,o,none⟩∧b<B∧w.cell? ⟨b,o+i,none⟩=some (.slice A' l[i].length c')∧Sl 6 zo w B A' l[i]:=by
 obtain ⟨b,o,u,hA,hb,hc,A',c',hr,hs⟩:=h.at1 hi
 cases hr
 exact ⟨b,o,A',c',hA,hb,hc,hs⟩
theorem ri (A1 A2 A3 A4 A5 A6 A7 A8 A9 A10 A11 A12:Option Addr) (p:Lp) (c1 c2 c3 c4 c5 c6 c7 c8 c9 c10 c11 c12:Nat) (l:List (List Nd)) (A:Option Addr) (cap:Nat) (w:World) (h:cz w w.heap.size A1 A2 A3 A4 A5 A6 A7 A8 A9 A10 A11 A12 p) (hk:Sl 1 pT w w.heap.size A l) (hsm:l.length≤sm):
  Calls prog 91 #[.agg (aO A1 A2 A3 A4 A5 A6 A7 A8 A9 A10 A11 A12 p c1 c2 c3 c4 c5 c6 c7 c8 c9 c10 c11 c12),.slice A l.length cap] w fun e w'=>rh p l w.heap.size e w'∧Below w.heap.size w w':=by
 unfold aO
 have hlen:=hk.len
 have hsm':l.length≤1048576:=hsm
 obtain ⟨wz,hwz,hsz,hbz,hcz,-⟩:=af w (aO A1 A2 A3 A4 A5 A6 A7 A8 A9 A10 A11 A12 p c1 c2 c3 c4 c5 c6 c7 c8 c9 c10 c11 c12) 33
 have hP:=aa (h.below hbz)
 have hC:=aa (hk.below aV hbz)
 have hl1:w.heap.size<wz.heap.size:=by omega
 replace hbz:=aa hbz
 replace hsz:=aa hsz
 clear h hk
 go_enter func91,ntmps91
 go_wp2
 go_loopw [6,8,9,10,13] (fun v _ _ _ i wr=>∃ (k:Nat) (ws:List Int) (B:Option Addr) (cp:Nat),k≤l.length∧i=.int .i64 k∧v=.slice B ws.length cp∧Hid (ws.length=k)∧Hid (f6 (eO p (-1)) (l.take k)=some ws)∧Hid (ci wr wz.heap.size (.slice B ws.length cp) ws)∧Hid (Below wz.heap.size wz wr)) (fun _ _ _ _ i _=>l.length-(intOf i).toNat)
 case atStart=>exact ⟨0,[],none,0,Hz _,rfl,rfl,aa rfl,aa rfl,aa (ci.nil_ _ _),aa (Hs _ _)⟩
 case round=>
  obtain ⟨k,ws,B,cp,hk,rfl,rfl,hwk,hf,hI,hG⟩:=hrel
  have hzr:=hG.out.size
  have hgo:=aa (fun W (hW:Below wz.heap.size wr W)=>hbz.out.trans ((hG.out.trans hW).mono hbz.out.size))
  by_cases hlt:k<l.length
  focus
   have hkz:(k:Int)<(l.length:Int):=by omega
   obtain ⟨b,o,A',c',rfl,hb,hcell,hE⟩:=(hC.out.below aV (hG.out.mono hbz.out.size)).code hlt
   have Yn:=fun i=>(hG.out.cell (p:=⟨w.heap.size,i,none⟩) hl1).trans (hcz i)
   have y0:=Yn 0
   have y1:=Yn 1
   have y2:=Yn 2
   have y3:=Yn 3
   have y4:=Yn 4
   have y5:=Yn 5
   have y6:=Yn 6
   have y7:=Yn 7
   have y8:=Yn 8
   have y9:=Yn 9
   have y10:=Yn 10
   have y11:=Yn 11
   simp only [HB,HC,HD] at y0 y1 y2 y3 y4 y5 y6 y7 y8 y9 y10 y11
   have hW:=gQ A1 A2 A3 A4 A5 A6 A7 A8 A9 A10 A11 A12 p c1 c2 c3 c4 c5 c6 c7 c8 c9 c10 c11 c12 (-1) l[k] A' c' wr ((hP.out.below (hG.out.mono hbz.out.size)).more (by omega)) (hE.more bm (by omega))
   unfold Cc at hW
   cases ho:eO p (-1) l[k] with
   |none=>
    have hv:=aa (Ar hlt hf.out ho)
    rw [ho] at hW
    replace hW:=aa hW
    clear Yn hE
    go_wp2_with (go_at_call 87;refine hW.out.mono ?_;rintro e w4 ⟨rfl,hb4⟩)
    refine bodyPost_ret (results_tmp2 rfl _ _ _) rfl ⟨?_,hgo.out _ (hb4.mono hzr)⟩
    unfold rh
    rw [hv.out]
    rfl
   |some x=>
    have hv:=aa (Aq hlt hf.out ho)
    rw [ho] at hW
    replace hW:=aa hW
    clear Yn hE
    go_upto_region 8 with (go_at_call 87;refine hW.out.mono ?_;rintro e w4 ⟨rfl,hb4⟩)
    obtain ⟨v',w',hr,hI',hB'⟩:=iV x (hI.out.below hb4 (Ht _)) (Hw hzr hb4.size) (by have:=hwk.out;unfold dX;omega)
    obtain ⟨Au,cu,rfl⟩:=hI'.form
    have hN:=aa (hG.out.trans ((hb4.mono hzr).trans hB'))
    have hl5:=aa (show (ws++ [x]).length=k+1 from by simp [hwk.out])
    replace hI':=aa hI'
    simp only [HM,HN,List.length_nil,H3] at hr
    clear hB' hb4
    go_wp2
    go_roundw
    case rel=>exact ⟨k+1,ws++ [x],Au,cu,by omega,by go_num,by simp,hl5,hv,hI',hN⟩
    case measure=>simp [intOf];omega
  rotate_right
  focus
   have hke:k=l.length:=by omega
   rw [hke,H7] at hf
   have hgE:=aa (hgo.out _ (Hs _ _))
   by_cases h4:l.length≤4
   have h4z:decide ((l.length:Int)≤4)=true:=decide_eq_true (by omega)
   have h4d:=aa (decide_eq_true h4)
   rotate_right
   have h4z:decide ((l.length:Int)≤4)=false:=decide_eq_false (by omega)
   have h4d:=aa (decide_eq_false h4)
  all_goals
   go_wp2
   refine bodyPost_ret (results_tmp2 rfl _ _ _) rfl ⟨?_,hgE.out⟩
   unfold rh
   rw [hf.out]
   exact ⟨B,cp,by rw [h4d.out]<;>rfl,hI.out.mono (by omega)⟩
end
theorem xg:∀ args w,(callFunc 92 args).run prog w=.ok (.enter 92 args) w:=enters_of func92 (by kernel_rfl) rfl
theorem xh:∀ args w,(callFunc 93 args).run prog w=.ok (.enter 93 args) w:=enters_of func93 (by kernel_rfl) rfl
theorem rj (p:Lp) (B:Option Addr) (c x:Nat) (t:Int) (w:World) (hl:p.steps.length≤9223372036854775807) (hc:w.cell? ⟨x,2,none⟩=some (.slice B p.steps.length c)):
  Calls prog 89 #[.int .i64 t,.pointer (some ⟨x,0,none⟩)] w fun e w'=>e=.returned (.bool (gd p t))∧w=w':=by
 go_enter func89,ntmps89
 go_wp2
 all_goals go_ret
 all_goals refine ⟨ad ?_,rfl⟩
 all_goals (unfold gd;first|rfl|(rw [HF];simp [*];done)|(rw [HF];simp [*];omega))
theorem At (p:Lp) (B:Option Addr) (c x:Nat) (t:Int) (w:World) (hl:p.heads.length≤9223372036854775807) (hc:w.cell? ⟨x,0,none⟩=some (.slice B p.heads.length c)):
  Calls prog 90 #[.int .i64 t,.pointer (some ⟨x,0,none⟩)] w fun e w'=>e=.returned (.bool (dC p.heads.length t))∧w=w':=by
 go_enter func90,ntmps90
 go_wp2
 all_goals go_ret
 all_goals refine ⟨ad ?_,rfl⟩
 all_goals (unfold dC;first|rfl|(rw [HF];simp [*];done)|(rw [HF];simp [*];omega))
theorem xi (p:Lp) (B:Option Addr) (c x y:Nat) (t:Int) (w:World) (hl:p.heads.length≤9223372036854775807) (hc:w.cell? ⟨x,0,none⟩=some (.slice B p.heads.length c))
  (hf:w.cell? ⟨y,0,none⟩=some (.func (.func 90) #[] #[.pointer (some ⟨x,0,none⟩)])):
  Calls prog 92 #[.int .i64 t,.pointer (some ⟨y,0,none⟩)] w fun e w'=>e=.returned (.bool (!dC p.heads.length t))∧w=w':=by
 have hC:=aa (At p B c x t w hl hc)
 go_enter func92,ntmps92
 go_wp2_with (go_at_call 90;refine hC.out.mono ?_;rintro e w' ⟨rfl,rfl⟩)
 go_ret
 exact ⟨rfl,rfl⟩
def tG (p:Int→Bool) (xs:List Int):Int:=match xs.findIdx? p with
 |some i=>(i:Int)
 |none=> -1
theorem CM {p:Int→Bool} {xs:List Int} {k:Nat} (hk:k<xs.length) (h:(xs.take k).any p=false) (hp:p xs[k]=true):tG p xs=(k:Int):=by
 have:xs.findIdx? p=some k:=by
  rw [List.findIdx?_eq_some_iff_getElem]
  refine ⟨hk,hp,fun j hj=> ?_⟩
  have:=List.any_eq_false.1 h xs[j] (List.mem_take_iff_getElem.2 ⟨j,by omega,rfl⟩)
  exact this
 rw [tG,this]
theorem CN {p:Int→Bool} {xs:List Int} (h:xs.any p=false):tG p xs= -1:=by
 have:xs.findIdx? p=none:=by
  rw [List.findIdx?_eq_none_iff]
  intro x hx
  simpa using List.any_eq_false.1 h x hx
 rw [tG,this]
theorem rp (p:Int→Bool) (xs:List Int):decide (0≤tG p xs)=xs.any p:=by
 unfold tG
 cases h:xs.findIdx? p with
 |none=>
  rw [List.findIdx?_eq_none_iff] at h
  have:xs.any p=false:=List.any_eq_false.2 fun x hx=>by simp [h x hx]
  rw [this];rfl
 |some i=>
  rw [List.findIdx?_eq_some_iff_getElem] at h
  obtain ⟨hi,hp,-⟩:=h
  rw [gg hi hp]
  simp
def FM (B:Nat) (fid:Nat) (lb:Array Value) (p:Int→Bool) (xs:List Int) (w:World):Prop:=
 ∀ (x:Int) (W:World),x∈xs→Below B w W→Calls prog fid (#[.int .i64 x]++lb) W fun e w'=>e=.returned (.bool (p x))∧Below W.heap.size W w'
theorem nx (fid:Nat) (lb:Array Value) (eg:∀ args w,(callFunc fid args).run prog w=.ok (.enter fid args) w) (p:Int→Bool) (A:Option Addr) (cap:Nat) (xs:List Int) (w:World) (h:Sl 1 bc w w.heap.size A xs) (hf:FM w.heap.size fid lb p xs w):
  Calls prog 127 #[.slice A xs.length cap,.func (.func fid) #[] lb] w fun e w'=>e=.returned (.int .i64 (tG p xs))∧Below w.heap.size w w':=by
 have hl:=h.len
 replace hf:=aa hf
 go_enter func127,ntmps127
 go_wp2
 go_loopw [5,8] (fun _ i wr=>∃ k:Nat,k≤xs.length∧i=.int .i64 k∧Hid ((xs.take k).any p=false)∧Hid (Below w.heap.size w wr)) (fun _ i _=>xs.length-(intOf i).toNat)
 case atStart=>exact ⟨0,Hz _,rfl,aa (by simp),aa (Hs _ _)⟩
 case round=>
  obtain ⟨k,hk,rfl,hc,hbr⟩:=hrel
  have hcw:=ae hbr.out
  by_cases hlt:k<xs.length
  ·obtain ⟨b,o,rfl,hb,hcell⟩:=h.int hlt
   have hltz:(k:Int)<(xs.length:Int):=by omega
   clear h
   have hcall:=hf.out xs[k] wr (HE _) hbr.out
   cases hp:p xs[k] with
   |true=>
    rw [hp] at hcall
    have hv:=aa (CM hlt hc.out hp)
    clear hp
    go_wp2_with (go_at_fn fid;refine hcall.mono ?_;rintro e w' ⟨rfl,hb1⟩)
    go_ret
    exact ⟨av hv.out.symm,hbr.out.trans (hb1.mono hbr.out.size)⟩
   |false=>
    rw [hp] at hcall
    have hv:=aa (bY hlt hc.out hp)
    clear hp
    go_wp2_with (go_at_fn fid;refine hcall.mono ?_;rintro e w' ⟨rfl,hb1⟩)
    go_roundw
    case rel=>exact ⟨k+1,by omega,by go_num,hv,aa (hbr.out.trans (hb1.mono hbr.out.size))⟩
    case measure=>simp [intOf];omega
  ·have hv:=aa (CN (de hk hlt hc.out))
   go_wp2
   go_ret
   exact ⟨av hv.out.symm,hbr.out⟩
theorem fD (fid:Nat) (lb:Array Value) (eg:∀ args w,(callFunc fid args).run prog w=.ok (.enter fid args) w) (p:Int→Bool) (A:Option Addr) (cap:Nat) (xs:List Int) (w:World) (h:Sl 1 bc w w.heap.size A xs) (hf:FM w.heap.size fid lb p xs w):
  Calls prog 80 #[.slice A xs.length cap,.func (.func fid) #[] lb] w fun e w'=>e=.returned (.bool (xs.any p))∧Below w.heap.size w w':=by
 have hv:=aa (rp p xs)
 replace hf:=aa hf
 go_enter func80,ntmps80
 go_wp2_with (go_at_call 127;refine (nx fid lb eg p A cap xs _ h hf.out).mono ?_;rintro e w' ⟨rfl,hb⟩)
 go_ret
 exact ⟨ad hv.out,hb⟩
theorem mj (d:NN→Int→Bool×NN):∀ (a b:List Int) (M:NN),bF d M (a++b)=if (bF d M a).1=true then bF d M a else bF d (bF d M a).2 b
 | [],b,M=>by simp [bF]
 |x::a,b,M=>by
  simp only [List.cons_append,bF]
  by_cases h:(d M x).1=true
  ·simp [h]
  ·simp only [if_neg h];exact mj d a b _
theorem oo {d:NN→Int→Bool×NN} {xs:List Int} {k:Nat} {M Mk:NN} (hk:k<xs.length) (h:bF d M (xs.take k)=(false,Mk)):bF d M (xs.take (k+1))=d Mk xs[k]:=by
 rw [H9 hk,mj,h]
 simp only [H2,if_false,bF]
 by_cases h2:(d Mk xs[k]).1=true
 ·rw [if_pos h2];exact Prod.ext h2.symm rfl
 ·rw [if_neg h2];exact Prod.ext (by simpa using h2) rfl
theorem oq {d:NN→Int→Bool×NN} {xs:List Int} {k:Nat} {M M':NN} (h:bF d M (xs.take k)=(true,M')):bF d M xs=(true,M'):=by
 have:xs=xs.take k++xs.drop k:=(Ig k xs).symm
 rw [this,mj,h];rfl
def uX (n F:Nat) (M:NN):Prop:=(∀ j,0≤ez M j)∧white n M≤F
theorem py {n F:Nat} {M:NN} {i v:Int} (h:uX n F M) (hv:0<v):uX n F (gc M i v):=by
 refine ⟨fun j=> ?_,Hw (kV fun j hj=> ?_) h.2⟩
 ·rw [nJ];split
  ·omega
  ·exact h.1 j
 ·rw [nJ] at hj
  split at hj
  ·omega
  ·exact hj
theorem rq {n F:Nat} {d:NN→Int→Bool×NN}:∀ (l:List Int) (M:NN),uX n F M→(∀ x∈l,∀ M,uX n F M→uX n F (d M x).2)→uX n F (bF d M l).2
 | [],M,h,_=>h
 |x::l,M,h,hd=>by
  simp only [bF]
  have hx:=hd x (by simp) M h
  split
  ·exact hx
  ·exact rq l _ hx fun y hy=>hd y (by simp [hy])
theorem pz {n:Nat} (g:Int→List Int):∀ (f F:Nat) (M:NN) (i:Int),uX n F M→uX n F (gI g f M i).2
 |0,F,M,i,h=>h
 |f+1,F,M,i,h=>by
  simp only [gI]
  split
  ·exact h
  ·split
   ·exact h
   ·exact py (rq _ _ (py h (by omega)) fun x _ M hM=>pz g f F M x hM) (by omega)
def FY (mb:Nat) (fid:Nat) (lb:Array Value) (d:NN→Int→Bool×NN) (I:NN→Prop) (xs:List Int) (w:World):Prop:=
 ∀ (x:Int) (W:World) (M:NN),x∈xs→Gr mb w W→iy W mb M→I M→Calls prog fid (#[.int .i64 x]++lb) W fun e w'=>e=.returned (.bool (d M x).1)∧iy w' mb (d M x).2∧Gr mb W w'∧I (d M x).2
theorem tH (fid:Nat) (lb:Array Value) (eg:∀ args w,(callFunc fid args).run prog w=.ok (.enter fid args) w) (mb:Nat) (d:NN→Int→Bool×NN) (I:NN→Prop) (M:NN) (A:Option Addr) (cap:Nat) (xs:List Int) (w:World) (h:Sl 1 bc w w.heap.size A xs) (hne:∀ b o,A=some ⟨b,o,none⟩→b≠mb) (hM:iy w mb M) (hI:I M) (hf:FY mb fid lb d I xs w):
  Calls prog 127 #[.slice A xs.length cap,.func (.func fid) #[] lb] w fun e w'=>∃ r:Int,e=.returned (.int .i64 r)∧decide (0≤r)=(bF d M xs).1∧iy w' mb (bF d M xs).2∧Gr mb w w':=by
 have hl:=h.len
 replace hf:=aa hf
 go_enter func127,ntmps127
 go_wp2
 go_loopw [5,8] (fun _ i wr=>∃ (k:Nat) (Mk:NN),k≤xs.length∧i=.int .i64 k∧Hid (bF d M (xs.take k)=(false,Mk))∧Hid (iy wr mb Mk)∧Hid (I Mk)∧Hid (Gr mb w wr)) (fun _ i _=>xs.length-(intOf i).toNat)
 case atStart=>exact ⟨0,M,Hz _,rfl,aa rfl,aa hM,aa hI,aa (Gr.refl _ _)⟩
 case round=>
  obtain ⟨k,Mk,hk,rfl,hc,hN,hIk,hG⟩:=hrel
  by_cases hlt:k<xs.length
  ·obtain ⟨b,o,rfl,hb,hcell⟩:=h.int hlt
   have hltz:(k:Int)<(xs.length:Int):=by omega
   have hbne:=hne b o rfl
   have hcr:=(hG.out.cell (i:=o+k) hb hbne).trans hcell
   have hcall:=hf.out xs[k] wr Mk (HE _) hG.out hN.out hIk.out
   have hst:=aa (oo hlt hc.out)
   clear h hne hcell
   generalize d Mk xs[k]=r at hcall hst
   obtain ⟨r,M'⟩:=r
   simp only at hcall
   cases r with
   |true=>
    have hv:=aa (oq hst.out)
    replace hcall:=aa hcall
    go_wp2_with (go_at_fn fid;refine hcall.out.mono ?_;rintro e w' ⟨rfl,hN',hG',hI'⟩)
    go_ret
    refine ⟨(k:Int),rfl,?_,?_,hG.out.trans hG'⟩
    ·rw [hv.out];simp
    ·rw [hv.out];exact hN'
   |false=>
    replace hcall:=aa hcall
    go_wp2_with (go_at_fn fid;refine hcall.out.mono ?_;rintro e w' ⟨rfl,hN',hG',hI'⟩)
    go_roundw
    case rel=>exact ⟨k+1,M',by omega,by go_num,hst,aa hN',aa hI',aa (hG.out.trans hG')⟩
    case measure=>simp [intOf];omega
  ·have hke:k=xs.length:=by omega
   rw [hke,H7] at hc
   go_wp2
   go_ret
   refine ⟨-1,rfl,?_,?_,hG.out⟩
   ·rw [hc.out];rfl
   ·rw [hc.out];exact hN.out
theorem ny (fid:Nat) (lb:Array Value) (eg:∀ args w,(callFunc fid args).run prog w=.ok (.enter fid args) w) (mb:Nat) (d:NN→Int→Bool×NN) (I:NN→Prop) (M:NN) (A:Option Addr) (cap:Nat) (xs:List Int) (w:World) (h:Sl 1 bc w w.heap.size A xs) (hne:∀ b o,A=some ⟨b,o,none⟩→b≠mb) (hM:iy w mb M) (hI:I M) (hf:FY mb fid lb d I xs w):
  Calls prog 80 #[.slice A xs.length cap,.func (.func fid) #[] lb] w fun e w'=>e=.returned (.bool (bF d M xs).1)∧iy w' mb (bF d M xs).2∧Gr mb w w':=by
 have hX:=aa (tH fid lb eg mb d I M A cap xs w h hne hM hI hf)
 clear h hne hM hI hf
 generalize bF d M xs=R at hX ⊢
 go_enter func80,ntmps80
 go_wp2_with (go_at_call 127;refine hX.out.mono ?_;rintro e w' ⟨r,rfl,hr,hN,hG⟩;replace hr:=aa hr)
 go_ret
 exact ⟨ad hr.out,hN,hG⟩
section
attribute [local go_sem ↓] cH
theorem ot:∀ args w,(callFunc 97 args).run prog w=.ok (.enter 97 args) w:=enters_of func97 (by kernel_rfl) rfl
structure E3 (w:World) (lb db fb mb:Nat) (A:Option Addr) (c:Nat) (l:List j8):Prop where
 done:w.cell? ⟨db,0,none⟩=some (.map (some mb))
 list:w.cell? ⟨lb,0,none⟩=some (.slice A l.length c)
 self:w.cell? ⟨fb,0,none⟩=some (.func (.func 97) #[] #[.pointer (some ⟨db,0,none⟩),.pointer (some ⟨lb,0,none⟩),.pointer (some ⟨fb,0,none⟩)])
 stp:Sl 4 m8 w mb A l
 lt:lb<mb∧mb<db∧db<w.heap.size∧mb<fb∧fb<w.heap.size
theorem E3.gr {w W:World} {lb db fb mb:Nat} {A:Option Addr} {c:Nat} {l:List j8} (h:E3 w lb db fb mb A c l) (hg:Gr mb w W):E3 W lb db fb mb A c l:=by
 obtain ⟨h1,h2,h3,h4,h5⟩:=h.lt
 refine ⟨(hg.cell h3 (by omega)).trans h.done,(hg.cell (by omega) (by omega)).trans h.list,(hg.cell h5 (by omega)).trans h.self,h.stp.below fP (hg.below (Ht _) (by omega)),h1,h2,Hr h3 hg.size,h4,Hr h5 hg.size⟩
theorem Aw {w:World} {mb:Nat} (M:NN):Gr mb w (mi w mb M):=⟨rfl,rfl,rfl,by rw [xf];exact Ht _,fun k _ hn=>Ak (by simpa using hn)⟩
theorem Sl.stp {w:World} {B:Nat} {A:Option Addr} {xs:List j8} (h:Sl 4 m8 w B A xs) {i:Nat} (hi:i<xs.length):∃ b o A1 A2 A3 c1 c2 c3,A=some ⟨b,o,none⟩∧b<B∧w.cell? ⟨b,o+i*4,none⟩=some (.slice A1 xs[i].takes.length c1)∧w.cell? ⟨b,o+i*4+1,none⟩=some (.slice A2 xs[i].keys.length c2)∧w.cell? ⟨b,o+i*4+2,none⟩=some (.slice A3 xs[i].brs.length c3)∧w.cell? ⟨b,o+i*4+3,none⟩=some (.int .i64 xs[i].to)∧
  Sl 1 bc w B A1 xs[i].takes∧Sl 1 pT w B A2 xs[i].keys∧Sl 2 vM w B A3 xs[i].brs∧xs[i].keys.length≤sm:=by
 obtain ⟨b,o,ecs,hA,hb,hl,hc,A1,A2,A3,c1,c2,c3,rfl,h1,h2,h3,h4⟩:=h.2 i xs[i] (HA hi)
 exact ⟨b,o,A1,A2,A3,c1,c2,c3,hA,hb,hc 0 _ rfl,hc 1 _ rfl,hc 2 _ rfl,hc 3 _ rfl,h1,h2,h3,h4⟩
theorem Sl.br {w:World} {B:Nat} {A:Option Addr} {xs:List Br} (h:Sl 2 vM w B A xs) {i:Nat} (hi:i<xs.length):∃ b o A1 c1,A=some ⟨b,o,none⟩∧b<B∧w.cell? ⟨b,o+i*2,none⟩=some (.slice A1 xs[i].pats.length c1)∧w.cell? ⟨b,o+i*2+1,none⟩=some (.int .i64 xs[i].to)∧Sl 4 gT w B A1 xs[i].pats:=by
 obtain ⟨b,o,ecs,hA,hb,hl,hc,A1,c1,rfl,h1⟩:=h.2 i xs[i] (HA hi)
 exact ⟨b,o,A1,c1,hA,hb,hc 0 _ rfl,hc 1 _ rfl,h1⟩
theorem mo {l:List j8} {k:Nat} (h:k<l.length):bf l (k:Int)=iM l[k]:=by unfold bf;rw [il k h];rfl
theorem Ay (l:List j8) (A:Option Addr) (c lb db fb mb:Nat) (hg:∀ i,∀ t∈bf l i,t<l.length) (hbr:∀ s∈l,s.brs.length≤1000):∀ (f F:Nat) (M:NN) (i:Int) (w:World),uX l.length F M→F<f→i<l.length→E3 w lb db fb mb A c l→iy w mb M→
  Calls prog 97 #[.int .i64 i,.pointer (some ⟨db,0,none⟩),.pointer (some ⟨lb,0,none⟩),.pointer (some ⟨fb,0,none⟩)] w fun e w'=>e=.returned (.bool (gI (bf l) f M i).1)∧iy w' mb (gI (bf l) f M i).2∧Gr mb w w':=by
 intro f
 induction f with
 |zero=>intro F M i w _ hF;omega
 |succ f ih=>
  intro F M i w hM hF hi hC hN
  have hd:gI (bf l) (f+1) M i=if i<0 then (false,M) else if 0<ez M i then (ez M i==1,M) else
   ((bF (gI (bf l) f) (gc M i 1) (bf l i)).1,gc (bF (gI (bf l) f) (gc M i 1) (bf l i)).2 i 2):=rfl
  rw [hd]
  clear hd
  have cd:=hC.done
  have cl:=hC.list
  have cf:=hC.self
  obtain ⟨q1,q2,q3,q4,q5⟩:=hC.lt
  have ql:lb<w.heap.size:=by omega
  have hls:=hC.stp.len
  have hlk:=re hN i
  by_cases i0:i<0
  ·simp only [if_pos i0]
   have d1:decide (i<0)=true:=decide_eq_true i0
   have d2:decide (0≤i)=false:=decide_eq_false (by omega)
   go_enter func97,ntmps97
   go_wp2
   all_goals first|(exfalso;omega)|(go_ret;exact ⟨rfl,hN,Gr.refl _ _⟩)
  ·simp only [if_neg i0]
   by_cases i1:0<ez M i
   ·simp only [if_pos i1]
    generalize ez M i=x at*
    go_enter func97,ntmps97
    go_wp2
    all_goals first|(exfalso;omega)|(go_ret;exact ⟨rfl,hN,Gr.refl _ _⟩)
   ·simp only [if_neg i1]
    have hz:ez M i=0:=by have:=hM.1 i;omega
    obtain ⟨k,rfl⟩:=HH (show 0≤i by omega)
    have hk:k<l.length:=by omega
    rw [mo hk]
    have hwp:=nM (n:=l.length) (M:=M) (i:=(k:Int)) (by omega) hi hz
    have hF1:1≤F:=by have:=hM.2;omega
    have hM1:uX l.length (F-1) (gc M (k:Int) 1):=⟨(py hM (by omega)).1,by have:=hM.2;omega⟩
    have hup:=j0 hN (k:Int) 1
    obtain ⟨w1,hw1⟩:∃ w1,mi w mb (gc M (k:Int) 1)=w1:=⟨_,rfl⟩
    rw [hw1] at hup
    have hG1:Gr mb w w1:=by rw [←hw1];exact Aw _
    have hN1:iy w1 mb (gc M (k:Int) 1):=by rw [←hw1];exact uW hN
    have hC1:=hC.gr hG1
    rw [hz] at hlk
    obtain ⟨b,o,A1,A2,A3,c1,c2,c3,rfl,hb,-,n1,n2,n3,-,hKs,hBr,-⟩:=hC1.stp.stp hk
    have hks0:=hKs.len
    have hkz:(k:Int)<(l.length:Int):=by omega
    have hsm:=hbr l[k] (HE hk)
    have hbl:mb<w1.heap.size:=hN1.lt
    have hgk:∀ t∈iM l[k],t<l.length:=fun t ht=>hg (k:Int) t (by rw [mo hk];exact ht)
    have e1:=hC1.done
    have e2:=hC1.list
    have e3:=hC1.self
    obtain ⟨s1,s2,s3,s4,s5⟩:=hC1.lt
    have hC1':=aa hC1
    have hG1':=aa hG1
    have hN1':=aa hN1
    replace hN:=aa hN
    have hT:iM l[k]=(if l[k].keys.length=0 then [l[k].to] else [])++l[k].brs.map Br.to:=rfl
    clear hC hC1 hG1 hN1
    generalize hts:iM l[k]=ts at*
    generalize l[k]=sk at*
    obtain ⟨tk,ks,bs,tt⟩:=sk
    simp only at n1 n2 n3 hBr hsm hT hks0
    clear hts
    have hts:=aa hT.symm
    have hgk':=aa hgk
    clear hgk hT
    have hbl2:=hBr.len
    obtain ⟨w2,hw2,hs2,hb2,hc2,-⟩:=af w1 #[.int .i64 tt] 3
    have hI2:ci w2 w1.heap.size (.slice (some ⟨w1.heap.size,0,none⟩) 1 1) [tt]:=⟨rfl,.inr ⟨w1.heap.size,1,#[.int .i64 tt],rfl,Ht _,by rw [←hw2];exact heap_alloc_new w1 _,Ht _,by decide,rfl,rfl⟩⟩
    have kb2:=ae hb2
    have n1':=(kb2.1 _ (o+k*4+1) (by omega)).trans n1
    have n2':=(kb2.1 _ (o+k*4+2) (by omega)).trans n2
    have n3':=(kb2.1 _ (o+k*4+3) (by omega)).trans n3
    have e2':=(kb2.1 lb 0 (by omega)).trans e2
    have hlb2:lb<w2.heap.size:=by omega
    have hbb2:b<w2.heap.size:=by omega
    replace hI2:=aa hI2
    replace hs2:=aa hs2
    replace hb2:=aa hb2
    clear kb2 hc2
    go_enter func97,ntmps97
    go_upto_region 4 with fail
    all_goals first|(exfalso;omega)|skip
    go_upto_if 40 with fail
    go_cut [6] (fun v wx=>∃ B cp,v=.slice B (if ks.length=0 then [tt] else []).length cp∧ci wx w1.heap.size (.slice B (if ks.length=0 then [tt] else []).length cp) (if ks.length=0 then [tt] else [])∧wx=w2)
    case first=>
     by_cases h0:ks.length=0
     ·have h0z:¬(0:Int)<(ks.length:Int):=by omega
      replace h0:=aa h0
      go_wp2
      go_meet
      simp only [if_pos h0.out]
      exact ⟨some ⟨w1.heap.size,0,none⟩,1,rfl,hI2.out,trivial⟩
     ·have h0z:(0:Int)<(ks.length:Int):=by omega
      replace h0:=aa h0
      go_wp2
      go_meet
      simp only [if_neg h0.out]
      exact ⟨none,0,rfl,ci.nil_ _ _,trivial⟩
    case rest=>
     obtain ⟨B,cp,rfl,hI,rfl⟩:=hcut
     have hT1:(if ks.length=0 then [tt] else []).length≤1:=by split<;>simp
     generalize (if ks.length=0 then [tt] else [])=T0 at hI hts hT1 ⊢
     have hbsz:(bs.length:Int)≤9223372036854775807:=by omega
     have hI0:=aa hI
     clear hI
     go_wp2
     go_loopw [6,8,47] (fun v _ i wr=>∃ (j:Nat) (B:Option Addr) (cp n:Nat),j≤bs.length∧i=.int .i64 j∧v=.slice B n cp∧Hid (n=(T0++(bs.take j).map Br.to).length)∧Hid (ci wr w1.heap.size (.slice B n cp) (T0++(bs.take j).map Br.to))∧Hid (Below w1.heap.size w1 wr)) (fun _ _ i _=>bs.length-(intOf i).toNat)
     case atStart=>exact ⟨0,B,cp,T0.length,Hz _,rfl,rfl,aa (by simp),aa (by simpa using hI0.out),hb2⟩
     case round=>
      obtain ⟨j,B,cp,n,hj,rfl,rfl,hn,hI,hbw⟩:=hrel
      have hzr:=hbw.out.size
      by_cases hlt:j<bs.length
      ·have hjz:(j:Int)<(bs.length:Int):=by omega
       obtain ⟨b',o',A',c',rfl,hb',m0,m1,-⟩:=hBr.br hlt
       have m0r:=(bj hbw.out b' (o'+j*2) (by omega)).trans m0
       have m1r:=(bj hbw.out b' (o'+j*2+1) (by omega)).trans m1
       have hst:=aa (show T0++(bs.take (j+1)).map Br.to=(T0++(bs.take j).map Br.to)++ [bs[j].to] from by rw [H9 hlt,List.map_append,List.append_assoc];rfl)
       have hnl:n≤1001:=by have:=hn.out;simp at this;omega
       generalize bs[j]=x at*
       obtain ⟨pats,bt⟩:=x
       simp only at m0r m1r hst
       obtain ⟨wn,hwn,hsn,hbn,hcn,-⟩:=af wr #[.slice A' pats.length c',.int .i64 bt] 83
       have p0:wn.cell? ⟨wr.heap.size,0,none⟩=some (.slice A' pats.length c'):=hcn 0
       have p1:wn.cell? ⟨wr.heap.size,1,none⟩=some (.int .i64 bt):=hcn 1
       obtain ⟨v',w',hr,hI',hB'⟩:=iV bt (hI.out.below hbn (Ht _)) (Hw hzr hbn.size) (by rw [←hn.out];unfold dX;omega)
       obtain ⟨Au,cu,rfl⟩:=hI'.form
       have hN:=aa (hbw.out.trans ((hbn.mono hzr).trans hB'))
       have hwrn:wr.heap.size<wn.heap.size:=by omega
       rw [←hst.out] at hI' hr
       replace hsn:=aa hsn
       have hI2':=aa hI'
       generalize hm:(T0++(bs.take (j+1)).map Br.to).length=m at hr hI2'
       replace hm:=aa hm.symm
       clear hI' hB' hbn hcn hI
       go_wp2
       go_roundw
       case rel=>exact ⟨j+1,Au,cu,m,by omega,by go_num,rfl,hm,hI2',hN⟩
       case measure=>simp [intOf];omega
      ·have hje:j=bs.length:=by omega
       subst hje
       rw [H7,hts.out] at hn hI
       obtain ⟨A',cap',e,hSl⟩:=hI.out.sl
       injection e with ea eb ec
       have hne:∀ b2 o2,B=some ⟨b2,o2,none⟩→b2≠mb:=fun b2 o2 hB=>by
        have:=(World.ownsRow.lt hI.out b2 (by rw [hB];rfl)).1
        omega
       subst ea ec
       have hGr:=Gr.of (g:=mb) (Below.mono (hbw.out) (Ht _))
       have hCr:=hC1'.out.gr hGr
       have hNr:=hN1'.out.below hbw.out hbl
       have hFn:FY mb 97 #[.pointer (some ⟨db,0,none⟩),.pointer (some ⟨lb,0,none⟩),.pointer (some ⟨fb,0,none⟩)] (gI (bf l) f) (uX l.length (F-1)) ts wr:=fun x W M' hx hG hN' hI'=>
        (ih (F-1) M' x W hI' (by omega) (hgk'.out x hx) (hCr.gr hG) hN').mono fun e w' ⟨a1,a2,a3⟩=>⟨a1,a2,a3,pz _ _ _ _ _ hI'⟩
       have hX:=ny 97 _ ot mb (gI (bf l) f) (uX l.length (F-1)) (gc M (k:Int) 1) B cp ts wr hSl hne hNr hM1 hFn
       rw [←eb] at hX
       have f3:=hCr.self
       have f1:=hCr.done
       obtain ⟨t1,t2,t3,t4,t5⟩:=hCr.lt
       have hGw:=aa (hG1'.out.trans hGr)
       replace hX:=aa hX
       clear hFn hSl hne hI hCr hNr e1 e2 e3 eb ih
       go_upto_region 13 with (go_at_call 80;refine hX.out.mono ?_;rintro e w5 ⟨rfl,hN5,hG5⟩)
       have d5:=(hG5.cell (i:=0) t3 (by omega)).trans f1
       have hup2:=j0 hN5 (k:Int) 2
       have hNf:=aa (uW (M':=gc (bF (gI (bf l) f) (gc M (k:Int) 1) ts).2 (k:Int) 2) hN5)
       have hGf:=aa (hGw.out.trans (hG5.trans (Aw (gc (bF (gI (bf l) f) (gc M (k:Int) 1) ts).2 (k:Int) 2))))
       clear hN5 hG5 hX
       go_wp2
       go_ret
       exact ⟨rfl,hNf.out,hGf.out⟩
end
theorem CO {n k:Nat} (h:k<(en n).length):(en n)[k]=(k:Int):=by simp [en]
theorem rr (n:Nat):(en n).length=n:=by simp [en]
theorem tI (l:List j8) (A:Option Addr) (c:Nat) (w:World) (h:Sl 4 m8 w w.heap.size A l) (hg:∀ i,∀ t∈bf l i,t<l.length) (hbr:∀ s∈l,s.brs.length≤1000):
  Calls prog 42 #[.slice A l.length c] w fun e w'=>e=.returned (.bool (sP l))∧Below w.heap.size w w':=by
 have hl:=h.len
 obtain ⟨wl,hwl,hsl,hbl,hcl,-⟩:=af w #[.slice A l.length c] 24
 obtain ⟨wm,hwm⟩:∃ wm,wl.alloc (.map #[] 0)=wm:=⟨_,rfl⟩
 have hsm:wm.heap.size=wl.heap.size+1:=by rw [←hwm];simp
 have hbm:Below wl.heap.size wl wm:=by rw [←hwm];exact (Hs _ _).alloc (Ht _) _
 have hNm:iy wm wl.heap.size []:=by rw [←hwm];exact heap_alloc_new wl _
 obtain ⟨wd,hwd,hsd,hbd,hcd,-⟩:=af wm #[.map (some (w.heap.size+1))] 153
 obtain ⟨wf,hwf,hsf,hbf,hcf,-⟩:=af wd #[.func (.func 97) #[] #[.pointer (some ⟨w.heap.size+1+1,0,none⟩),.pointer (some ⟨w.heap.size,0,none⟩),.pointer (some ⟨w.heap.size+1+1+1,0,none⟩)]] 142
 have e3:Below wd.heap.size wd wf:=hbf
 have e2:Below wm.heap.size wm wf:=hbd.trans (e3.mono (by omega))
 have e1:Below wl.heap.size wl wf:=hbm.trans (e2.mono (by omega))
 have e0:Below w.heap.size w wf:=hbl.trans (e1.mono (by omega))
 have hC:E3 wf w.heap.size (w.heap.size+1+1) (w.heap.size+1+1+1) (w.heap.size+1) A c l:=by
  refine ⟨?_,?_,?_,(h.below fP e0).more fP (by omega),by omega,by omega,by omega,by omega,by omega⟩
  ·have:=(bj e3 wm.heap.size 0 (by omega)).trans (hcd 0)
   rw [hsm,hsl] at this;exact this
  ·exact (bj e1 w.heap.size 0 (by omega)).trans (hcl 0)
  ·have:=hcf 0
   rw [hsd,hsm,hsl] at this;exact this
 have hN:iy wf (w.heap.size+1) []:=by
  have:=hNm.below e2 (by omega)
  rw [hsl] at this;exact this
 have hM:uX l.length l.length []:=⟨fun j=>by simp [ez],qf _ _⟩
 have hDn:=Ay l A c w.heap.size (w.heap.size+1+1) (w.heap.size+1+1+1) (w.heap.size+1) hg hbr (l.length+1) l.length
 have cl0:=hC.list
 have cf0:=hC.self
 obtain ⟨q1,q2,q3,q4,q5⟩:=hC.lt
 have ql:w.heap.size<wf.heap.size:=by omega
 have hv:=aa (show sP l=(bF (gI (bf l) (l.length+1)) [] (en l.length)).1 from rfl)
 replace hC:=aa hC
 replace hN:=aa hN
 replace hM:=aa hM
 replace e0:=aa e0
 replace hsf:=aa hsf
 clear hcl hcd hcf hbl hbm hbd hbf e1 e2 e3 hNm
 have eg:=ot
 have hmm:=@run_makeMap prog
 go_enter func42,ntmps42
 go_upto_region 4 with fail
 go_wp2
 go_loopw [5,10] (fun _ i wr=>∃ (k:Nat) (Mk:NN),k≤l.length∧i=.int .i64 k∧Hid (bF (gI (bf l) (l.length+1)) [] ((en l.length).take k)=(false,Mk))∧Hid (iy wr (w.heap.size+1) Mk)∧Hid (uX l.length l.length Mk)∧Hid (Gr (w.heap.size+1) wf wr)) (fun _ i _=>l.length-(intOf i).toNat)
 case atStart=>exact ⟨0,[],Hz _,rfl,aa rfl,hN,hM,aa (Gr.refl _ _)⟩
 case round=>
  obtain ⟨k,Mk,hk,rfl,hc,hNk,hMk,hG⟩:=hrel
  have hCr:=hC.out.gr hG.out
  have cf1:=hCr.self
  have hgo:=aa (fun W (hW:Gr (w.heap.size+1) wr W)=>e0.out.trans ((hG.out.trans hW).below (B:=w.heap.size) (by omega) (by omega)))
  by_cases hlt:k<l.length
  ·have hkz:(k:Int)<(l.length:Int):=by omega
   have hku:k<(en l.length).length:=by rw [rr];exact hlt
   have hcall:=hDn Mk (k:Int) wr hMk.out (by omega) hkz hCr hNk.out
   have hst:=oo hku hc.out
   rw [CO hku] at hst
   have hMn:=aa (pz (bf l) (l.length+1) l.length Mk (k:Int) hMk.out)
   generalize gI (bf l) (l.length+1) Mk (k:Int)=r at hcall hst hMn
   obtain ⟨r,M'⟩:=r
   simp only at hcall hMn
   replace hst:=aa hst
   clear hCr
   cases r with
   |true=>
    have hv2:=aa (oq hst.out)
    replace hcall:=aa hcall
    go_wp2_with (go_at_call 97;refine hcall.out.mono ?_;rintro e w' ⟨rfl,hN',hG'⟩)
    go_ret
    exact ⟨ad (by rw [hv.out,hv2.out]),hgo.out _ hG'⟩
   |false=>
    replace hcall:=aa hcall
    go_wp2_with (go_at_call 97;refine hcall.out.mono ?_;rintro e w' ⟨rfl,hN',hG'⟩)
    go_roundw
    case rel=>exact ⟨k+1,M',by omega,by go_num,hst,aa hN',hMn,aa (hG.out.trans hG')⟩
    case measure=>simp [intOf];omega
  ·have hke:k=(en l.length).length:=by rw [rr];omega
   rw [hke,H7] at hc
   clear hCr
   go_wp2
   go_ret
   exact ⟨ad (by rw [hv.out,hc.out]),hgo.out _ (Gr.refl _ _)⟩
def kl {α:Type} (p:α→Bool) (xs:List α):Int:=match xs.findIdx? p with
 |some i=>(i:Int)
 |none=> -1
theorem jc {α:Type} {p:α→Bool} {xs:List α} {k:Nat} (hk:k<xs.length) (h:(xs.take k).any p=false) (hp:p xs[k]=true):kl p xs=(k:Int):=by
 have:xs.findIdx? p=some k:=by
  rw [List.findIdx?_eq_some_iff_getElem]
  refine ⟨hk,hp,fun j hj=> ?_⟩
  exact List.any_eq_false.1 h xs[j] (List.mem_take_iff_getElem.2 ⟨j,by omega,rfl⟩)
 rw [kl,this]
theorem jd {α:Type} {p:α→Bool} {xs:List α} (h:xs.any p=false):kl p xs= -1:=by
 have:xs.findIdx? p=none:=by
  rw [List.findIdx?_eq_none_iff]
  intro x hx
  simpa using List.any_eq_false.1 h x hx
 rw [kl,this]
theorem d7 {α:Type} (p:α→Bool) (xs:List α):decide (0≤kl p xs)=xs.any p:=by
 unfold kl
 cases h:xs.findIdx? p with
 |none=>
  rw [List.findIdx?_eq_none_iff] at h
  have:xs.any p=false:=List.any_eq_false.2 fun x hx=>by simp [h x hx]
  rw [this];rfl
 |some i=>
  rw [List.findIdx?_eq_some_iff_getElem] at h
  obtain ⟨hi,hp,-⟩:=h
  rw [gg hi hp]
  simp
def CP {α:Type} (R:CR α) (B:Nat) (fid:Nat) (lb:Array Value) (q:α→Bool) (xs:List α) (w:World):Prop:=
 ∀ (x:α) (W:World) (cs:List Value),x∈xs→Below B w W→R W W.heap.size cs x→Calls prog fid (#[.agg cs.toArray]++lb) W fun e w'=>e=.returned (.bool (q x))∧Below W.heap.size W w'
theorem rt (fid:Nat) (lb:Array Value) (eg:∀ args w,(callFunc fid args).run prog w=.ok (.enter fid args) w) (q:Br→Bool) (A:Option Addr) (cap:Nat) (xs:List Br) (w:World) (h:Sl 2 vM w w.heap.size A xs) (hf:CP vM w.heap.size fid lb q xs w):
  Calls prog 135 #[.slice A xs.length cap,.func (.func fid) #[] lb] w fun e w'=>e=.returned (.int .i64 (kl q xs))∧Below w.heap.size w w':=by
 have hl:=h.len
 replace hf:=aa hf
 go_enter func135,ntmps135
 go_wp2
 go_loopw [5,8] (fun _ i wr=>∃ k:Nat,k≤xs.length∧i=.int .i64 k∧Hid ((xs.take k).any q=false)∧Hid (Below w.heap.size w wr)) (fun _ i _=>xs.length-(intOf i).toNat)
 case atStart=>exact ⟨0,Hz _,rfl,aa (by simp),aa (Hs _ _)⟩
 case round=>
  obtain ⟨k,hk,rfl,hc,hbr⟩:=hrel
  by_cases hlt:k<xs.length
  ·have hltz:(k:Int)<(xs.length:Int):=by omega
   obtain ⟨b,o,ecs,rfl,hb,hn,hcell,hre⟩:=h.2 k _ (HA hlt)
   have hcall:=hf.out xs[k] wr ecs (HE _) hbr.out (bZ.more (bZ.keep hre fun q hq=>hbr.out.cell hq) hbr.out.size)
   have hcw:=fun j u hu=>(hbr.out.cell (p:=⟨b,o+k*2+j,none⟩) hb).trans (hcell j u hu)
   obtain ⟨PA,pc,rfl,hs⟩:=hre
   have x0:wr.cell? ⟨b,o+k*2,none⟩=_:=hcw 0 _ rfl
   have x1:wr.cell? ⟨b,o+k*2+1,none⟩=_:=hcw 1 _ rfl
   clear h hcell hcw
   cases hp:q xs[k] with
   |true=>
    rw [hp] at hcall
    have hv:=aa (jc hlt hc.out hp)
    clear hp
    replace hcall:=aa hcall
    go_wp2_with (go_at_fn fid;refine hcall.out.mono ?_;rintro e w' ⟨rfl,hb1⟩)
    go_ret
    exact ⟨av hv.out.symm,hbr.out.trans (hb1.mono hbr.out.size)⟩
   |false=>
    rw [hp] at hcall
    have hv:=aa (bY hlt hc.out hp)
    clear hp
    replace hcall:=aa hcall
    go_wp2_with (go_at_fn fid;refine hcall.out.mono ?_;rintro e w' ⟨rfl,hb1⟩)
    go_roundw
    case rel=>exact ⟨k+1,by omega,by go_num,hv,aa (hbr.out.trans (hb1.mono hbr.out.size))⟩
    case measure=>simp [intOf];omega
  ·have hv:=aa (jd (de hk hlt hc.out))
   go_wp2
   go_ret
   exact ⟨av hv.out.symm,hbr.out⟩
theorem mp (fid:Nat) (lb:Array Value) (eg:∀ args w,(callFunc fid args).run prog w=.ok (.enter fid args) w) (q:Br→Bool) (A:Option Addr) (cap:Nat) (xs:List Br) (w:World) (h:Sl 2 vM w w.heap.size A xs) (hf:CP vM w.heap.size fid lb q xs w):
  Calls prog 96 #[.slice A xs.length cap,.func (.func fid) #[] lb] w fun e w'=>e=.returned (.bool (xs.any q))∧Below w.heap.size w w':=by
 have hv:=aa (d7 q xs)
 replace hf:=aa hf
 go_enter func96,ntmps96
 go_wp2_with (go_at_call 135;refine (rt fid lb eg q A cap xs _ h hf.out).mono ?_;rintro e w' ⟨rfl,hb⟩)
 go_ret
 exact ⟨ad hv.out,hb⟩
theorem ru (fid:Nat) (lb:Array Value) (eg:∀ args w,(callFunc fid args).run prog w=.ok (.enter fid args) w) (q:j8→Bool) (A:Option Addr) (cap:Nat) (xs:List j8) (w:World) (h:Sl 4 m8 w w.heap.size A xs) (hf:CP m8 w.heap.size fid lb q xs w):
  Calls prog 88 #[.slice A xs.length cap,.func (.func fid) #[] lb] w fun e w'=>e=.returned (.int .i64 (kl q xs))∧Below w.heap.size w w':=by
 have hl:=h.len
 replace hf:=aa hf
 go_enter func88,ntmps88
 go_wp2
 go_loopw [5,8] (fun _ i wr=>∃ k:Nat,k≤xs.length∧i=.int .i64 k∧Hid ((xs.take k).any q=false)∧Hid (Below w.heap.size w wr)) (fun _ i _=>xs.length-(intOf i).toNat)
 case atStart=>exact ⟨0,Hz _,rfl,aa (by simp),aa (Hs _ _)⟩
 case round=>
  obtain ⟨k,hk,rfl,hc,hbr⟩:=hrel
  by_cases hlt:k<xs.length
  ·have hltz:(k:Int)<(xs.length:Int):=by omega
   obtain ⟨b,o,ecs,rfl,hb,hn,hcell,hre⟩:=h.2 k _ (HA hlt)
   have hcall:=hf.out xs[k] wr ecs (HE _) hbr.out (fP.more (fP.keep hre fun q hq=>hbr.out.cell hq) hbr.out.size)
   have hcw:=fun j u hu=>(hbr.out.cell (p:=⟨b,o+k*4+j,none⟩) hb).trans (hcell j u hu)
   obtain ⟨P1,P2,P3,d1,d2,d3,rfl,hs1,hs2,hs3,hs4⟩:=hre
   have x0:wr.cell? ⟨b,o+k*4,none⟩=_:=hcw 0 _ rfl
   have x1:wr.cell? ⟨b,o+k*4+1,none⟩=_:=hcw 1 _ rfl
   have x2:wr.cell? ⟨b,o+k*4+2,none⟩=_:=hcw 2 _ rfl
   have x3:wr.cell? ⟨b,o+k*4+3,none⟩=_:=hcw 3 _ rfl
   clear h hcell hcw
   cases hp:q xs[k] with
   |true=>
    rw [hp] at hcall
    have hv:=aa (jc hlt hc.out hp)
    clear hp
    replace hcall:=aa hcall
    go_wp2_with (go_at_fn fid;refine hcall.out.mono ?_;rintro e w' ⟨rfl,hb1⟩)
    go_ret
    exact ⟨av hv.out.symm,hbr.out.trans (hb1.mono hbr.out.size)⟩
   |false=>
    rw [hp] at hcall
    have hv:=aa (bY hlt hc.out hp)
    clear hp
    replace hcall:=aa hcall
    go_wp2_with (go_at_fn fid;refine hcall.out.mono ?_;rintro e w' ⟨rfl,hb1⟩)
    go_roundw
    case rel=>exact ⟨k+1,by omega,by go_num,hv,aa (hbr.out.trans (hb1.mono hbr.out.size))⟩
    case measure=>simp [intOf];omega
  ·have hv:=aa (jd (de hk hlt hc.out))
   go_wp2
   go_ret
   exact ⟨av hv.out.symm,hbr.out⟩
theorem mr (fid:Nat) (lb:Array Value) (eg:∀ args w,(callFunc fid args).run prog w=.ok (.enter fid args) w) (q:j8→Bool) (A:Option Addr) (cap:Nat) (xs:List j8) (w:World) (h:Sl 4 m8 w w.heap.size A xs) (hf:CP m8 w.heap.size fid lb q xs w):
  Calls prog 39 #[.slice A xs.length cap,.func (.func fid) #[] lb] w fun e w'=>e=.returned (.bool (xs.any q))∧Below w.heap.size w w':=by
 have hv:=aa (d7 q xs)
 replace hf:=aa hf
 go_enter func39,ntmps39
 go_wp2_with (go_at_call 88;refine (ru fid lb eg q A cap xs _ h hf.out).mono ?_;rintro e w' ⟨rfl,hb⟩)
 go_ret
 exact ⟨ad hv.out,hb⟩
theorem rv (fid:Nat) (lb:Array Value) (eg:∀ args w,(callFunc fid args).run prog w=.ok (.enter fid args) w) (q:fJ→Bool) (A:Option Addr) (cap:Nat) (xs:List fJ) (w:World) (h:Sl 5 oX w w.heap.size A xs) (hf:CP oX w.heap.size fid lb q xs w):
  Calls prog 98 #[.slice A xs.length cap,.func (.func fid) #[] lb] w fun e w'=>e=.returned (.int .i64 (kl q xs))∧Below w.heap.size w w':=by
 have hl:=h.len
 replace hf:=aa hf
 go_enter func98,ntmps98
 go_wp2
 go_loopw [5,8] (fun _ i wr=>∃ k:Nat,k≤xs.length∧i=.int .i64 k∧Hid ((xs.take k).any q=false)∧Hid (Below w.heap.size w wr)) (fun _ i _=>xs.length-(intOf i).toNat)
 case atStart=>exact ⟨0,Hz _,rfl,aa (by simp),aa (Hs _ _)⟩
 case round=>
  obtain ⟨k,hk,rfl,hc,hbr⟩:=hrel
  by_cases hlt:k<xs.length
  ·have hltz:(k:Int)<(xs.length:Int):=by omega
   obtain ⟨b,o,ecs,rfl,hb,hn,hcell,hre⟩:=h.2 k _ (HA hlt)
   have hcall:=hf.out xs[k] wr ecs (HE _) hbr.out (kD.more (kD.keep hre fun q hq=>hbr.out.cell hq) hbr.out.size)
   have hcw:=fun j u hu=>(hbr.out.cell (p:=⟨b,o+k*5+j,none⟩) hb).trans (hcell j u hu)
   obtain ⟨P1,P2,P3,P4,d1,d2,d3,d4,rfl,hs1,hs2,hs3,hs4,hs5⟩:=hre
   have x0:wr.cell? ⟨b,o+k*5,none⟩=_:=hcw 0 _ rfl
   have x1:wr.cell? ⟨b,o+k*5+1,none⟩=_:=hcw 1 _ rfl
   have x2:wr.cell? ⟨b,o+k*5+2,none⟩=_:=hcw 2 _ rfl
   have x3:wr.cell? ⟨b,o+k*5+3,none⟩=_:=hcw 3 _ rfl
   have x4:wr.cell? ⟨b,o+k*5+4,none⟩=_:=hcw 4 _ rfl
   clear h hcell hcw
   cases hp:q xs[k] with
   |true=>
    rw [hp] at hcall
    have hv:=aa (jc hlt hc.out hp)
    clear hp
    replace hcall:=aa hcall
    go_wp2_with (go_at_fn fid;refine hcall.out.mono ?_;rintro e w' ⟨rfl,hb1⟩)
    go_ret
    exact ⟨av hv.out.symm,hbr.out.trans (hb1.mono hbr.out.size)⟩
   |false=>
    rw [hp] at hcall
    have hv:=aa (bY hlt hc.out hp)
    clear hp
    replace hcall:=aa hcall
    go_wp2_with (go_at_fn fid;refine hcall.out.mono ?_;rintro e w' ⟨rfl,hb1⟩)
    go_roundw
    case rel=>exact ⟨k+1,by omega,by go_num,hv,aa (hbr.out.trans (hb1.mono hbr.out.size))⟩
    case measure=>simp [intOf];omega
  ·have hv:=aa (jd (de hk hlt hc.out))
   go_wp2
   go_ret
   exact ⟨av hv.out.symm,hbr.out⟩
theorem mt (fid:Nat) (lb:Array Value) (eg:∀ args w,(callFunc fid args).run prog w=.ok (.enter fid args) w) (q:fJ→Bool) (A:Option Addr) (cap:Nat) (xs:List fJ) (w:World) (h:Sl 5 oX w w.heap.size A xs) (hf:CP oX w.heap.size fid lb q xs w):
  Calls prog 43 #[.slice A xs.length cap,.func (.func fid) #[] lb] w fun e w'=>e=.returned (.bool (xs.any q))∧Below w.heap.size w w':=by
 have hv:=aa (d7 q xs)
 replace hf:=aa hf
 go_enter func43,ntmps43
 go_wp2_with (go_at_call 98;refine (rv fid lb eg q A cap xs _ h hf.out).mono ?_;rintro e w' ⟨rfl,hb⟩)
 go_ret
 exact ⟨ad hv.out,hb⟩
theorem xj:∀ args w,(callFunc 81 args).run prog w=.ok (.enter 81 args) w:=enters_of func81 (by kernel_rfl) rfl
theorem Az (n:Int) (w:World):Calls prog 81 #[.int .i64 n] w fun e w'=>e=.returned (.bool (!aj n))∧w=w':=by
 go_enter func81,ntmps81
 go_wp2_with (go_at_call 82;refine (iN n _).mono ?_;rintro e w' ⟨rfl,rfl⟩)
 go_ret
 exact ⟨rfl,rfl⟩
theorem rx {α:Type} (q:α→Bool) (l:List α):(l.any fun x=> !q x)= !l.all q:=by
 induction l with
 |nil=>rfl
 |cons x l ih=>simp only [List.any_cons,List.all_cons,ih,Bool.not_and]
theorem eZ (A:Option Addr) (cap:Nat) (xs:List Int) (m:Nat) (w:World) (h:Sl 1 bc w w.heap.size A xs):
  Calls prog 35 #[.slice A xs.length cap,.int .i64 (m:Int)] w fun e w'=>e=.returned (.bool (dU xs m))∧Below w.heap.size w w':=by
 have hl:=h.len
 have hF:FM w.heap.size 81 #[] (fun t=> !aj t) xs w:=fun t W _ _=>(Az t W).mono fun e w' ⟨he,hq⟩=>⟨he,by rw [hq];exact Hs _ _⟩
 have hC:=fD 81 #[] xj (fun t=> !aj t) A cap xs w h hF
 rw [rx] at hC
 have hv:=aa (show dU xs m=(decide (xs.length≤m)&&xs.all aj) from rfl)
 generalize xs.all aj=z at hC hv
 replace hC:=aa hC
 clear hF h
 by_cases h1:xs.length≤m
 ·have h1z:(xs.length:Int)≤(m:Int):=by omega
  have h1d:decide ((xs.length:Int)≤(m:Int))=true:=decide_eq_true h1z
  rw [decide_eq_true h1,Hx] at hv
  go_enter func35,ntmps35
  cases z
  all_goals
   go_wp2_with (go_at_call 80;refine hC.out.mono ?_;rintro e w3 ⟨rfl,hb3⟩)
   go_ret
   exact ⟨ad hv.out.symm,hb3⟩
 ·have h1z:¬(xs.length:Int)≤(m:Int):=by omega
  have h1d:decide ((xs.length:Int)≤(m:Int))=false:=decide_eq_false h1z
  rw [decide_eq_false h1,Hu] at hv
  go_enter func35,ntmps35
  go_wp2
  go_ret
  exact ⟨ad hv.out.symm,Hs _ _⟩
theorem xk (l:List Int) (x:Int):∀ n,iL n (l++ [x])=wrap64 (iL n l+x):=by
 induction l with
 |nil=>intro n;rfl
 |cons y l ih=>intro n;simp only [List.cons_append,iL];exact ih _
theorem ou {l:List Int} {k:Nat} (hk:k<l.length):iL 0 (l.take (k+1))=wrap64 (iL 0 (l.take k)+l[k]):=by rw [H9 hk,xk]
theorem ry (A:Option Addr) (cap:Nat) (xs:List Int) (w:World) (h:Sl 1 bc w w.heap.size A xs):
  Calls prog 34 #[.slice A xs.length cap] w fun e w'=>e=.returned (.bool (bQ xs))∧Below w.heap.size w w':=by
 have hl:=h.len
 have hC:=eZ A cap xs 16 w h
 have hv:=aa (show bQ xs=(decide (1≤xs.length)&&dU xs 16&&decide ((iL 0 xs).tmod 8=0)&&decide (iL 0 xs≤256)) from rfl)
 generalize dU xs 16=z at hC hv
 replace hC:=aa hC
 go_enter func34,ntmps34
 go_wp2
 go_loop [3,5,8] (fun s _ i=>∃ k:Nat,k≤xs.length∧i=.int .i64 k∧∃ n,s=.int .i64 n∧Hid (iL 0 (xs.take k)=n)) (fun _ _ i=>xs.length-(intOf i).toNat)
 case atStart=>exact ⟨0,Hz _,rfl,0,rfl,aa rfl⟩
 case round=>
  obtain ⟨k,hk,rfl,n,rfl,hn⟩:=hrel
  by_cases hlt:k<xs.length
  focus
   obtain ⟨b,o,rfl,hb,hcell⟩:=h.int hlt
   have hkz:(k:Int)<(xs.length:Int):=by omega
   have hs:=aa (show iL 0 (xs.take (k+1))=wrap64 (n+xs[k]) from by rw [ou hlt,hn.out])
   go_wp2
   go_round
   case rel=>exact ⟨k+1,by omega,by go_num,_,rfl,hs⟩
   case measure=>simp [intOf];omega
  rotate_right
  focus
   have hke:k=xs.length:=by omega
   rw [hke,H7] at hn
   rw [hn.out] at hv
   by_cases h1:1≤xs.length
   focus
    have h1z:(1:Int)≤(xs.length:Int):=by omega
    rw [decide_eq_true h1,Hx] at hv
    cases z
    rw [Hu,Hu] at hv
    rotate_right
    focus
     rw [Hx] at hv
     by_cases h2:n.tmod 8=0
     focus
      rw [decide_eq_true h2,Hx] at hv
      have h2z:(n.tmod 8==0)=true:=by rw [beq_iff_eq];exact h2
      replace h2:=aa h2
      go_wp2_with (go_at_call 35;refine hC.out.mono ?_;rintro e w3 ⟨rfl,hb3⟩)
      all_goals go_ret
      all_goals exact ⟨ad (by rw [hv.out]<;>first|rfl|simp [*]|(simp;omega)),hb3⟩
     rotate_right
     rw [decide_eq_false h2,Hu] at hv
     have h2z:(n.tmod 8==0)=false:=beq_eq_false_iff_ne.2 h2
   rotate_right
   focus
    have h1z:¬(1:Int)≤(xs.length:Int):=by omega
    rw [decide_eq_false h1,Hu,Hu,Hu] at hv
    go_wp2
    go_ret
    exact ⟨ad hv.out.symm,Hs _ _⟩
  all_goals
   go_wp2_with (go_at_call 35;refine hC.out.mono ?_;rintro e w3 ⟨rfl,hb3⟩)
   go_ret
   exact ⟨ad hv.out.symm,hb3⟩
theorem iA (A:Option Addr) (cap:Nat) (xs:List Int) (w:World) (h:Sl 1 bc w w.heap.size A xs):
  Calls prog 48 #[.slice A xs.length cap] w fun e w'=>e=.returned (.bool (xs.all aj))∧w=w':=by
 have hl:=h.len
 have hv:=aa (fi aj xs)
 go_enter func48,ntmps48
 go_wp2
 go_loop [3] (fun i=>∃ k:Nat,k≤xs.length∧i=.int .i64 k∧Hid (ar (aZ aj xs) k=true)) (fun i=>xs.length-(intOf i).toNat)
 case atStart=>exact ⟨0,Hz _,rfl,aa rfl⟩
 case round=>
  obtain ⟨k,hk,rfl,hc⟩:=hrel
  by_cases hlt:k<xs.length
  ·obtain ⟨b,o,rfl,hb,hcell⟩:=h.int hlt
   have hkz:(k:Int)<(xs.length:Int):=by omega
   have hN:=aa (fun (g:aj xs[k]=true)=>show ar (aZ aj xs) (k+1)=true from by rw [ar,hc.out,am _ hlt,g];rfl)
   have hlo:=aa (fun (g:aj xs[k]=false)=>show ar (aZ aj xs) xs.length=false from ba hlt (by rw [am _ hlt];exact g))
   have hK:=o0 xs[k]
   generalize aj xs[k]=z at hK hN hlo
   cases z with
   |false=>
    replace hlo:=aa (hlo.out rfl)
    go_wp2_with (go_at_call 103;refine (hK _).mono ?_;rintro e w' ⟨rfl,rfl⟩)
    go_ret
    exact ⟨ad (by rw [hv.out,hlo.out]),rfl⟩
   |true=>
    replace hN:=aa (hN.out rfl)
    go_wp2_with (go_at_call 103;refine (hK _).mono ?_;rintro e w' ⟨rfl,rfl⟩)
    go_round
    case rel=>exact ⟨k+1,by omega,by go_num,hN⟩
    case measure=>simp [intOf];omega
  ·have hke:k=xs.length:=by omega
   subst hke
   go_wp2
   go_ret
   exact ⟨ad (by rw [hv.out,hc.out]),rfl⟩
theorem xm:∀ args w,(callFunc 84 args).run prog w=.ok (.enter 84 args) w:=enters_of func84 (by kernel_rfl) rfl
theorem xq:∀ args w,(callFunc 33 args).run prog w=.ok (.enter 33 args) w:=enters_of func33 (by kernel_rfl) rfl
theorem AA (A B:Option Addr) (n m c d:Nat) (w:World) (hn:n≤9223372036854775807) (hm:m≤9223372036854775807):Calls prog 84 #[.slice A n c,.slice B m d] w fun e w'=>e=.returned (.bool (decide (n=m)))∧w=w':=by
 by_cases h:n=m
 have hz:((n:Int)==(m:Int))=true:=by rw [beq_iff_eq];omega
 have hv:=aa (decide_eq_true h)
 replace h:=aa h
 rotate_right
 have hz:((n:Int)==(m:Int))=false:=by rw [beq_eq_false_iff_ne];omega
 have hv:=aa (decide_eq_false h)
 all_goals
  go_enter func84,ntmps84
  go_wp2
  go_ret
  exact ⟨ad hv.out.symm,rfl⟩
def jD (l:List Int) (n:List ByteArray):Bool:=decide (l.length=n.length)
theorem Sl.strs {w:World} {B:Nat} {A:Option Addr} {xs:List (List ByteArray)} (h:Sl 1 (mS 1 cJ) w B A xs) {i:Nat} (hi:i<xs.length):∃ b o A' c',A=some ⟨b,o,none⟩∧b<B∧w.cell? ⟨b,o+i,none⟩=some (.slice A' xs[i].length c')∧xs[i].length≤9223372036854775807:=by
 obtain ⟨b,o,u,hA,hb,hc,A',c',hr,hs⟩:=h.at1 hi
 cases hr
 exact ⟨b,o,A',c',hA,hb,hc,hs.len⟩
theorem rz (A A':Option Addr) (cap cap':Nat) (xs:List (List Int)) (ys:List (List ByteArray)) (w:World) (h:Sl 1 (mS 1 bc) w w.heap.size A xs) (h':Sl 1 (mS 1 cJ) w w.heap.size A' ys):
  Calls prog 83 #[.slice A xs.length cap,.slice A' ys.length cap',.func (.func 84) #[] #[]] w fun e w'=>e=.returned (.bool (dr jD xs ys))∧w=w':=by
 have hl:=h.len
 have hl':=h'.len
 have eg:=xm
 go_enter func83,ntmps83
 by_cases he:xs.length=ys.length
 ·have hez:((xs.length:Int) !=(ys.length:Int))=false:=by rw [he];exact bne_self_eq_false _
  have hv:=aa (show dr jD xs ys=ar (fun i=>aZ (fun x=>aZ (jD x) ys i) xs i) xs.length from by unfold dr;rw [decide_eq_true he,Hx])
  replace he:=aa he
  go_wp2
  go_loop [7,8,9,17] (fun _ _ _ i=>∃ k:Nat,k≤xs.length∧i=.int .i64 k∧Hid (ar (fun i=>aZ (fun x=>aZ (jD x) ys i) xs i) k=true)) (fun _ _ _ i=>xs.length-(intOf i).toNat)
  case atStart=>exact ⟨0,Hz _,rfl,aa rfl⟩
  case round=>
   obtain ⟨k,hk,rfl,hc⟩:=hrel
   by_cases hlt:k<xs.length
   ·have hlt':k<ys.length:=by have:=he.out;omega
    have hkz:(k:Int)<(xs.length:Int):=by omega
    have hkz':(k:Int)<(ys.length:Int):=by omega
    obtain ⟨b,o,X1,x1,rfl,hb,hx,hxs⟩:=h.ints hlt
    obtain ⟨b',o',Y1,y1,rfl,hb',hy,hyl⟩:=h'.strs hlt'
    have hxl:=hxs.len
    have hstep:ar (fun i=>aZ (fun x=>aZ (jD x) ys i) xs i) (k+1)=jD xs[k] ys[k]:=by
     rw [ar,hc.out,Hx,am _ hlt,am _ hlt']
    have hlo:=aa (fun (g:jD xs[k] ys[k]=false)=>show ar (fun i=>aZ (fun x=>aZ (jD x) ys i) xs i) xs.length=false from ba hlt (by rw [am _ hlt,am _ hlt'];exact g))
    have hK:Calls prog 84 #[.slice X1 xs[k].length x1,.slice Y1 ys[k].length y1] w fun e w'=>e=.returned (.bool (jD xs[k] ys[k]))∧w=w':=AA X1 Y1 _ _ x1 y1 w hxl hyl
    clear h h' hxs hc
    generalize jD xs[k] ys[k]=F at hK hstep hlo
    replace hK:=aa hK
    replace hstep:=aa hstep
    cases F with
    |false=>
     replace hlo:=aa (hlo.out rfl)
     go_wp2_with (go_at_fn 84;refine hK.out.mono ?_;rintro e w3 ⟨rfl,rfl⟩)
     go_ret
     exact ⟨ad (by rw [hv.out,hlo.out]),rfl⟩
    |true=>
     go_wp2_with (go_at_fn 84;refine hK.out.mono ?_;rintro e w3 ⟨rfl,rfl⟩)
     go_round
     case rel=>exact ⟨k+1,by omega,by go_num,hstep⟩
     case measure=>simp [intOf];omega
   ·have hke:k=xs.length:=by omega
    subst hke
    go_wp2
    go_ret
    exact ⟨ad (by rw [hv.out,hc.out]),rfl⟩
 ·have hez:((xs.length:Int) !=(ys.length:Int))=true:=by rw [bne_iff_ne];omega
  have hv:=aa (show dr jD xs ys=false from by unfold dr;rw [decide_eq_false he,Hu])
  clear h h'
  go_wp2
  go_ret
  exact ⟨ad hv.out.symm,rfl⟩
def GW (B:Nat) (fid:Nat) (lb:Array Value) (q:List Int→Bool) (xs:List (List Int)) (w:World):Prop:=
 ∀ (x:List Int) (W:World) (A:Option Addr) (c:Nat),x∈xs→Below B w W→Sl 1 bc W W.heap.size A x→Calls prog fid (#[.slice A x.length c]++lb) W fun e w'=>e=.returned (.bool (q x))∧Below W.heap.size W w'
theorem tJ (fid:Nat) (lb:Array Value) (eg:∀ args w,(callFunc fid args).run prog w=.ok (.enter fid args) w) (q:List Int→Bool) (A:Option Addr) (cap:Nat) (xs:List (List Int)) (w:World) (h:Sl 1 (mS 1 bc) w w.heap.size A xs) (hf:GW w.heap.size fid lb q xs w):
  Calls prog 79 #[.slice A xs.length cap,.func (.func fid) #[] lb] w fun e w'=>e=.returned (.int .i64 (kl q xs))∧Below w.heap.size w w':=by
 have hl:=h.len
 replace hf:=aa hf
 go_enter func79,ntmps79
 go_wp2
 go_loopw [5,8] (fun _ i wr=>∃ k:Nat,k≤xs.length∧i=.int .i64 k∧Hid ((xs.take k).any q=false)∧Hid (Below w.heap.size w wr)) (fun _ i _=>xs.length-(intOf i).toNat)
 case atStart=>exact ⟨0,Hz _,rfl,aa (by simp),aa (Hs _ _)⟩
 case round=>
  obtain ⟨k,hk,rfl,hc,hbr⟩:=hrel
  by_cases hlt:k<xs.length
  ·have hltz:(k:Int)<(xs.length:Int):=by omega
   obtain ⟨b,o,A',c',rfl,hb,hcell,hs⟩:=h.ints hlt
   have hcall:=hf.out xs[k] wr A' c' (HE _) hbr.out ((hs.below ah hbr.out).more ah hbr.out.size)
   have x0:=(hbr.out.cell (p:=⟨b,o+k,none⟩) hb).trans hcell
   clear h hcell hs
   cases hp:q xs[k] with
   |true=>
    rw [hp] at hcall
    have hv:=aa (jc hlt hc.out hp)
    clear hp
    replace hcall:=aa hcall
    go_wp2_with (go_at_fn fid;refine hcall.out.mono ?_;rintro e w' ⟨rfl,hb1⟩)
    go_ret
    exact ⟨av hv.out.symm,hbr.out.trans (hb1.mono hbr.out.size)⟩
   |false=>
    rw [hp] at hcall
    have hv:=aa (bY hlt hc.out hp)
    clear hp
    replace hcall:=aa hcall
    go_wp2_with (go_at_fn fid;refine hcall.out.mono ?_;rintro e w' ⟨rfl,hb1⟩)
    go_roundw
    case rel=>exact ⟨k+1,by omega,by go_num,hv,aa (hbr.out.trans (hb1.mono hbr.out.size))⟩
    case measure=>simp [intOf];omega
  ·have hv:=aa (jd (de hk hlt hc.out))
   go_wp2
   go_ret
   exact ⟨av hv.out.symm,hbr.out⟩
theorem rA (A:Option Addr) (c:Nat) (x:List Int) (w:World) (h:Sl 1 bc w w.heap.size A x):Calls prog 33 #[.slice A x.length c] w fun e w'=>e=.returned (.bool (!bQ x))∧Below w.heap.size w w':=by
 have hC:=aa (ry A c x w h)
 clear h
 go_enter func33,ntmps33
 go_wp2_with (go_at_call 34;refine hC.out.mono ?_;rintro e w' ⟨rfl,hb⟩)
 go_ret
 exact ⟨rfl,hb⟩
theorem xu (A:Option Addr) (cap:Nat) (xs:List (List Int)) (w:World) (h:Sl 1 (mS 1 bc) w w.heap.size A xs):
  Calls prog 32 #[.slice A xs.length cap,.func (.func 33) #[] #[]] w fun e w'=>e=.returned (.bool (!xs.all bQ))∧Below w.heap.size w w':=by
 have hF:GW w.heap.size 33 #[] (fun x=> !bQ x) xs w:=fun x W A c _ _ hs=>rA A c x W hs
 have hX:=tJ 33 #[] xq (fun x=> !bQ x) A cap xs w h hF
 have hv:=d7 (fun x=> !bQ x) xs
 rw [rx] at hv
 generalize kl (fun x=> !bQ x) xs=r at hX hv
 replace hX:=aa hX
 replace hv:=aa hv
 clear hF h
 go_enter func32,ntmps32
 go_wp2_with (go_at_call 79;refine hX.out.mono ?_;rintro e w' ⟨rfl,hb⟩)
 go_ret
 exact ⟨ad hv.out,hb⟩
theorem pA (A1 A2 A3 A4 A5 A6 A7 A8 A9 A10 A11 A12:Option Addr) (p:Lp) (c1 c2 c3 c4 c5 c6 c7 c8 c9 c10 c11 c12:Nat) (w:World) (h:cz w w.heap.size A1 A2 A3 A4 A5 A6 A7 A8 A9 A10 A11 A12 p):
  Calls prog 36 #[.agg (aO A1 A2 A3 A4 A5 A6 A7 A8 A9 A10 A11 A12 p c1 c2 c3 c4 c5 c6 c7 c8 c9 c10 c11 c12)] w fun e w'=>e=.returned (.bool (gl p))∧Below w.heap.size w w':=by
 unfold aO
 have l1:=h.heads.len
 have l2:=h.metas.len
 have l4:=h.acts.len
 have l5:=h.tabs.len
 have l8:=h.nh.len
 have l10:=h.nm.len
 have l11:=h.na.len
 have l12:=h.nt.len
 obtain ⟨wz,hwz,hsz,hbz,hcz,-⟩:=af w (aO A1 A2 A3 A4 A5 A6 A7 A8 A9 A10 A11 A12 p c1 c2 c3 c4 c5 c6 c7 c8 c9 c10 c11 c12) 33
 obtain ⟨wa,hwa,hsa,hba,hca,-⟩:=af wz #[.slice A8 p.nh.length c8,.slice A9 p.nf.length c9,.slice A10 p.nm.length c10,.slice A11 p.na.length c11,.slice A12 p.nt.length c12] 31
 have Y:=fun i=>(bj hba w.heap.size i (by omega)).trans (hcz i)
 rw [hsz] at hca
 have k1:w.heap.size<wa.heap.size:=by omega
 have k0:w.heap.size<wz.heap.size:=by omega
 have k2:w.heap.size+1<wa.heap.size:=by omega
 have hw:Below w.heap.size w wa:=hbz.trans (hba.mono (by omega))
 have x0:wa.cell? ⟨w.heap.size+1,0,none⟩=some (.slice A8 p.nh.length c8):=hca 0
 have x1:wa.cell? ⟨w.heap.size+1,1,none⟩=some (.slice A9 p.nf.length c9):=hca 1
 have x2:wa.cell? ⟨w.heap.size+1,2,none⟩=some (.slice A10 p.nm.length c10):=hca 2
 have x3:wa.cell? ⟨w.heap.size+1,3,none⟩=some (.slice A11 p.na.length c11):=hca 3
 have x4:wa.cell? ⟨w.heap.size+1,4,none⟩=some (.slice A12 p.nt.length c12):=hca 4
 have y0:=Y 0
 have y1:=Y 1
 have y3:=Y 3
 have y4:=Y 4
 have z7:=hcz 7
 have z8:=hcz 8
 have z9:=hcz 9
 have z10:=hcz 10
 have z11:=hcz 11
 simp only [HB,HC,HD] at y0 y1 y3 y4 z7 z8 z9 z10 z11
 have hE:=rz A1 A9 c1 c9 p.heads p.nf wa ((h.heads.below (ee ah) hw).more (ee ah) hw.size) ((h.nf.below (ee aG) hw).more (ee aG) hw.size)
 have hv:=aa (show gl p=(dr jD p.heads p.nf&&decide (p.nh.length=p.heads.length)&&decide (p.nm.length=p.metas.length)&&decide (p.na.length=p.acts.length)&&decide (p.nt.length=p.tabs.length)) from rfl)
 generalize dr jD p.heads p.nf=z at hE hv
 replace hE:=aa hE
 replace hw:=aa hw
 replace hsa:=aa hsa
 clear h hca hcz hba hbz Y
 cases z
 rw [Hu,Hu,Hu,Hu] at hv
 rotate_right
 focus
  rw [Hx] at hv
  by_cases a1:p.nh.length=p.heads.length
  focus
   have a1z:((p.nh.length:Int)==(p.heads.length:Int))=true:=by rw [beq_iff_eq];omega
   rw [decide_eq_true a1,Hx] at hv
   replace a1:=aa a1
   by_cases a2:p.nm.length=p.metas.length
   focus
    have a2z:((p.nm.length:Int)==(p.metas.length:Int))=true:=by rw [beq_iff_eq];omega
    rw [decide_eq_true a2,Hx] at hv
    replace a2:=aa a2
    by_cases a3:p.na.length=p.acts.length
    focus
     have a3z:((p.na.length:Int)==(p.acts.length:Int))=true:=by rw [beq_iff_eq];omega
     rw [decide_eq_true a3,Hx] at hv
     replace a3:=aa a3
     by_cases a4:p.nt.length=p.tabs.length
     have a4z:((p.nt.length:Int)==(p.tabs.length:Int))=true:=by rw [beq_iff_eq];omega
     rw [decide_eq_true a4] at hv
     replace a4:=aa a4
     rotate_right
     have a4z:((p.nt.length:Int)==(p.tabs.length:Int))=false:=by rw [beq_eq_false_iff_ne];omega
     rw [decide_eq_false a4] at hv
    rotate_right
    have a3z:((p.na.length:Int)==(p.acts.length:Int))=false:=by rw [beq_eq_false_iff_ne];omega
    rw [decide_eq_false a3,Hu] at hv
   rotate_right
   have a2z:((p.nm.length:Int)==(p.metas.length:Int))=false:=by rw [beq_eq_false_iff_ne];omega
   rw [decide_eq_false a2,Hu,Hu] at hv
  rotate_right
  have a1z:((p.nh.length:Int)==(p.heads.length:Int))=false:=by rw [beq_eq_false_iff_ne];omega
  rw [decide_eq_false a1,Hu,Hu,Hu] at hv
 all_goals
  go_enter func36,ntmps36
  go_wp2_with (go_at_call 83;refine hE.out.mono ?_;rintro e w' ⟨rfl,rfl⟩)
  go_ret
  exact ⟨ad hv.out.symm,hw.out⟩
theorem CQ (p:Lp) (C:Option Addr) (sc x y z:Nat) (ws:List Int) (WB:Option Addr) (wc:Nat) (b:Br) (PA:Option Addr) (pc:Nat) (w:World) (hl:p.steps.length≤9223372036854775807) (hP:Sl 4 gT w w.heap.size PA b.pats) (hW:Sl 1 bc w w.heap.size WB ws)
  (hc:w.cell? ⟨x,2,none⟩=some (.slice C p.steps.length sc)) (hf:w.cell? ⟨y,0,none⟩=some (.func (.func 89) #[] #[.pointer (some ⟨x,0,none⟩)])) (hz:w.cell? ⟨z,0,none⟩=some (.slice WB ws.length wc)) (lx:x<w.heap.size) (ly:y<w.heap.size) (lz:z<w.heap.size):
  Calls prog 93 #[.agg #[.slice PA b.pats.length pc,.int .i64 b.to],.pointer (some ⟨y,0,none⟩),.pointer (some ⟨z,0,none⟩)] w fun e w'=>e=.returned (.bool (!(gd p b.to&&dr dR b.pats ws)))∧Below w.heap.size w w':=by
 obtain ⟨pats,tt⟩:=b
 simp only at hP ⊢
 obtain ⟨wa,hwa,hsa,hba,hca,-⟩:=af w #[.slice PA pats.length pc,.int .i64 tt] 83
 have b0:wa.cell? ⟨w.heap.size,0,none⟩=some (.slice PA pats.length pc):=hca 0
 have b1:wa.cell? ⟨w.heap.size,1,none⟩=some (.int .i64 tt):=hca 1
 have c2:=(hba.cell (p:=⟨x,2,none⟩) lx).trans hc
 have f2:=(hba.cell (p:=⟨y,0,none⟩) ly).trans hf
 have z2:=(hba.cell (p:=⟨z,0,none⟩) lz).trans hz
 have hT:=rj p C sc x tt wa hl c2
 have hE:=aa (wG PA WB pc wc pats ws wa ((hP.below ay hba).more ay hba.size) ((hW.below ah hba).more ah hba.size))
 have l1:w.heap.size<wa.heap.size:=by omega
 have l2:=Hr lx hba.size
 have l3:=Hr ly hba.size
 have l4:=Hr lz hba.size
 replace hba:=aa hba
 replace hsa:=aa hsa
 clear hca hP hW hc hf hz
 generalize gd p tt=T at hT ⊢
 generalize hG:dr dR pats ws=G
 replace hT:=aa hT
 cases T with
 |false=>
  go_enter func93,ntmps93
  go_wp2_with (go_at_call 89;refine hT.out.mono ?_;rintro e w' ⟨rfl,rfl⟩)
  go_ret
  exact ⟨rfl,hba.out⟩
 |true=>
  go_enter func93,ntmps93
  go_wp2_with (first|(go_at_call 89;refine hT.out.mono ?_;rintro e w' ⟨rfl,rfl⟩)|(go_at_call 94;refine hE.out.mono ?_;rintro e w3 ⟨rfl,hb3⟩;rw [hG]))
  go_ret
  exact ⟨ad (by simp),hba.out.trans (hb3.mono hba.out.size)⟩
theorem je {α:Type} (q:α→Bool) (l:List α):(l.any fun x=> !q x)= !l.all q:=by
 induction l with
 |nil=>rfl
 |cons x l ih=>simp only [List.any_cons,List.all_cons,ih,Bool.not_and]
end Go.Proofs.YtijcdfdbkffiaaaGreatDoor

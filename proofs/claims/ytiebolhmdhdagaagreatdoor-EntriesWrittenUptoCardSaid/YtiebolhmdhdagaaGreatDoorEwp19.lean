import Derived.Test.YtiebolhmdhdagaaGreatDoorEwp18
set_option linter.all false
set_option maxHeartbeats 8000000
set_option maxRecDepth 100000
open Go.Proofs.Tryz
namespace Go.Proofs.YtiebolhmdhdagaaGreatDoor
open _root_.Nat renaming lt_of_lt_of_le→He, le_trans→Hj, zero_le→Hm
open _root_.Go.RowKit.Below renaming refl→Hf
open _root_.Bool renaming false_and→Hg, true_and→Hk
open _root_.List renaming getElem?_eq_getElem→Hn, getElem_mem→Ho, getElem?_toArray→HH, getElem?_cons_zero→HK, getElem?_cons_succ→HM, take_succ_eq_append_getElem→HR, take_length→HZ, cons_append→H6
open Go.RowKit
def lQ {α:Type} (p:α→Bool) (xs:List α):Int:=match xs.findIdx? p with
 |some i=>(i:Int)
 |none=> -1
theorem jJ {α:Type} {p:α→Bool} {xs:List α} {k:Nat} (hk:k<xs.length) (h:(xs.take k).any p=false) (hp:p xs[k]=true):lQ p xs=(k:Int):=by
 have:xs.findIdx? p=some k:=by
  rw [List.findIdx?_eq_some_iff_getElem]
  refine ⟨hk,hp,fun j hj=> ?_⟩
  exact List.any_eq_false.1 h xs[j] (List.mem_take_iff_getElem.2 ⟨j,by omega,rfl⟩)
 rw [lQ,this]
theorem jK {α:Type} {p:α→Bool} {xs:List α} (h:xs.any p=false):lQ p xs= -1:=by
 have:xs.findIdx? p=none:=by
  rw [List.findIdx?_eq_none_iff]
  intro x hx
  simpa using List.any_eq_false.1 h x hx
 rw [lQ,this]
theorem eB {α:Type} (p:α→Bool) (xs:List α):decide (0≤lQ p xs)=xs.any p:=by
 unfold lQ
 cases h:xs.findIdx? p with
 |none=>
  rw [List.findIdx?_eq_none_iff] at h
  have:xs.any p=false:=List.any_eq_false.2 fun x hx=>by simp [h x hx]
  rw [this];rfl
 |some i=>
  rw [List.findIdx?_eq_some_iff_getElem] at h
  obtain ⟨hi,hp,-⟩:=h
  rw [gN hi hp]
  simp
def Dk {α:Type} (R:CR α) (B:Nat) (fid:Nat) (lb:Array Value) (q:α→Bool) (xs:List α) (w:World):Prop:=
 ∀ (x:α) (W:World) (cs:List Value),x∈xs→Below B w W→R W W.heap.size cs x→Calls prog fid (#[.agg cs.toArray]++lb) W fun e w'=>e=.returned (.bool (q x))∧Below W.heap.size W w'
theorem sW (fid:Nat) (lb:Array Value) (eg:∀ args w,(callFunc fid args).run prog w=.ok (.enter fid args) w) (q:Br→Bool) (A:Option Addr) (cap:Nat) (xs:List Br) (w:World) (h:Sl 2 xm w w.heap.size A xs) (hf:Dk xm w.heap.size fid lb q xs w):
  Calls prog 157 #[.slice A xs.length cap,.func (.func fid) #[] lb] w fun e w'=>e=.returned (.int .i64 (lQ q xs))∧Below w.heap.size w w':=by
 have hl:=h.len
 replace hf:=aa hf
 go_enter func157,ntmps157
 go_wp2
 go_loopw [5,8] (fun _ i wr=>∃ k:Nat,k≤xs.length∧i=.int .i64 k∧Hid ((xs.take k).any q=false)∧Hid (Below w.heap.size w wr)) (fun _ i _=>xs.length-(intOf i).toNat)
 case atStart=>exact ⟨0,Hm _,rfl,aa (by simp),aa (Hf _ _)⟩
 case round=>
  obtain ⟨k,hk,rfl,hc,hbr⟩:=hrel
  by_cases hlt:k<xs.length
  ·have hltz:(k:Int)<(xs.length:Int):=by omega
   obtain ⟨b,o,ecs,rfl,hb,hn,hcell,hre⟩:=h.2 k _ (Hn hlt)
   have hcall:=hf.out xs[k] wr ecs (Ho _) hbr.out (cz.more (cz.keep hre fun q hq=>hbr.out.cell hq) hbr.out.size)
   have hcw:=fun j u hu=>(hbr.out.cell (p:=⟨b,o+k*2+j,none⟩) hb).trans (hcell j u hu)
   obtain ⟨PA,pc,rfl,hs⟩:=hre
   have x0:wr.cell? ⟨b,o+k*2,none⟩=_:=hcw 0 _ rfl
   have x1:wr.cell? ⟨b,o+k*2+1,none⟩=_:=hcw 1 _ rfl
   clear h hcell hcw
   cases hp:q xs[k] with
   |true=>
    rw [hp] at hcall
    have hv:=aa (jJ hlt hc.out hp)
    clear hp
    replace hcall:=aa hcall
    go_wp2_with (go_at_fn fid;refine hcall.out.mono ?_;rintro e w' ⟨rfl,hb1⟩)
    go_ret
    exact ⟨aq hv.out.symm,hbr.out.trans (hb1.mono hbr.out.size)⟩
   |false=>
    rw [hp] at hcall
    have hv:=aa (cw hlt hc.out hp)
    clear hp
    replace hcall:=aa hcall
    go_wp2_with (go_at_fn fid;refine hcall.out.mono ?_;rintro e w' ⟨rfl,hb1⟩)
    go_roundw
    case rel=>exact ⟨k+1,by omega,by go_num,hv,aa (hbr.out.trans (hb1.mono hbr.out.size))⟩
    case measure=>simp [intOf];omega
  ·have hv:=aa (jK (dp hk hlt hc.out))
   go_wp2
   go_ret
   exact ⟨aq hv.out.symm,hbr.out⟩
theorem nR (fid:Nat) (lb:Array Value) (eg:∀ args w,(callFunc fid args).run prog w=.ok (.enter fid args) w) (q:Br→Bool) (A:Option Addr) (cap:Nat) (xs:List Br) (w:World) (h:Sl 2 xm w w.heap.size A xs) (hf:Dk xm w.heap.size fid lb q xs w):
  Calls prog 109 #[.slice A xs.length cap,.func (.func fid) #[] lb] w fun e w'=>e=.returned (.bool (xs.any q))∧Below w.heap.size w w':=by
 have hv:=aa (eB q xs)
 replace hf:=aa hf
 go_enter func109,ntmps109
 go_wp2_with (go_at_call 157;refine (sW fid lb eg q A cap xs _ h hf.out).mono ?_;rintro e w' ⟨rfl,hb⟩)
 go_ret
 exact ⟨ad hv.out,hb⟩
theorem sX (fid:Nat) (lb:Array Value) (eg:∀ args w,(callFunc fid args).run prog w=.ok (.enter fid args) w) (q:lI→Bool) (A:Option Addr) (cap:Nat) (xs:List lI) (w:World) (h:Sl 4 oL w w.heap.size A xs) (hf:Dk oL w.heap.size fid lb q xs w):
  Calls prog 101 #[.slice A xs.length cap,.func (.func fid) #[] lb] w fun e w'=>e=.returned (.int .i64 (lQ q xs))∧Below w.heap.size w w':=by
 have hl:=h.len
 replace hf:=aa hf
 go_enter func101,ntmps101
 go_wp2
 go_loopw [5,8] (fun _ i wr=>∃ k:Nat,k≤xs.length∧i=.int .i64 k∧Hid ((xs.take k).any q=false)∧Hid (Below w.heap.size w wr)) (fun _ i _=>xs.length-(intOf i).toNat)
 case atStart=>exact ⟨0,Hm _,rfl,aa (by simp),aa (Hf _ _)⟩
 case round=>
  obtain ⟨k,hk,rfl,hc,hbr⟩:=hrel
  by_cases hlt:k<xs.length
  ·have hltz:(k:Int)<(xs.length:Int):=by omega
   obtain ⟨b,o,ecs,rfl,hb,hn,hcell,hre⟩:=h.2 k _ (Hn hlt)
   have hcall:=hf.out xs[k] wr ecs (Ho _) hbr.out (gj.more (gj.keep hre fun q hq=>hbr.out.cell hq) hbr.out.size)
   have hcw:=fun j u hu=>(hbr.out.cell (p:=⟨b,o+k*4+j,none⟩) hb).trans (hcell j u hu)
   obtain ⟨P1,P2,P3,d1,d2,d3,rfl,hs1,hs2,hs3,hs4⟩:=hre
   have x0:wr.cell? ⟨b,o+k*4,none⟩=_:=hcw 0 _ rfl
   have x1:wr.cell? ⟨b,o+k*4+1,none⟩=_:=hcw 1 _ rfl
   have x2:wr.cell? ⟨b,o+k*4+2,none⟩=_:=hcw 2 _ rfl
   have x3:wr.cell? ⟨b,o+k*4+3,none⟩=_:=hcw 3 _ rfl
   clear h hcell hcw
   cases hp:q xs[k] with
   |true=>
    rw [hp] at hcall
    have hv:=aa (jJ hlt hc.out hp)
    clear hp
    replace hcall:=aa hcall
    go_wp2_with (go_at_fn fid;refine hcall.out.mono ?_;rintro e w' ⟨rfl,hb1⟩)
    go_ret
    exact ⟨aq hv.out.symm,hbr.out.trans (hb1.mono hbr.out.size)⟩
   |false=>
    rw [hp] at hcall
    have hv:=aa (cw hlt hc.out hp)
    clear hp
    replace hcall:=aa hcall
    go_wp2_with (go_at_fn fid;refine hcall.out.mono ?_;rintro e w' ⟨rfl,hb1⟩)
    go_roundw
    case rel=>exact ⟨k+1,by omega,by go_num,hv,aa (hbr.out.trans (hb1.mono hbr.out.size))⟩
    case measure=>simp [intOf];omega
  ·have hv:=aa (jK (dp hk hlt hc.out))
   go_wp2
   go_ret
   exact ⟨aq hv.out.symm,hbr.out⟩
theorem nS (fid:Nat) (lb:Array Value) (eg:∀ args w,(callFunc fid args).run prog w=.ok (.enter fid args) w) (q:lI→Bool) (A:Option Addr) (cap:Nat) (xs:List lI) (w:World) (h:Sl 4 oL w w.heap.size A xs) (hf:Dk oL w.heap.size fid lb q xs w):
  Calls prog 49 #[.slice A xs.length cap,.func (.func fid) #[] lb] w fun e w'=>e=.returned (.bool (xs.any q))∧Below w.heap.size w w':=by
 have hv:=aa (eB q xs)
 replace hf:=aa hf
 go_enter func49,ntmps49
 go_wp2_with (go_at_call 101;refine (sX fid lb eg q A cap xs _ h hf.out).mono ?_;rintro e w' ⟨rfl,hb⟩)
 go_ret
 exact ⟨ad hv.out,hb⟩
theorem sY (fid:Nat) (lb:Array Value) (eg:∀ args w,(callFunc fid args).run prog w=.ok (.enter fid args) w) (q:eF→Bool) (A:Option Addr) (cap:Nat) (xs:List eF) (w:World) (h:Sl 5 qz w w.heap.size A xs) (hf:Dk qz w.heap.size fid lb q xs w):
  Calls prog 111 #[.slice A xs.length cap,.func (.func fid) #[] lb] w fun e w'=>e=.returned (.int .i64 (lQ q xs))∧Below w.heap.size w w':=by
 have hl:=h.len
 replace hf:=aa hf
 go_enter func111,ntmps111
 go_wp2
 go_loopw [5,8] (fun _ i wr=>∃ k:Nat,k≤xs.length∧i=.int .i64 k∧Hid ((xs.take k).any q=false)∧Hid (Below w.heap.size w wr)) (fun _ i _=>xs.length-(intOf i).toNat)
 case atStart=>exact ⟨0,Hm _,rfl,aa (by simp),aa (Hf _ _)⟩
 case round=>
  obtain ⟨k,hk,rfl,hc,hbr⟩:=hrel
  by_cases hlt:k<xs.length
  ·have hltz:(k:Int)<(xs.length:Int):=by omega
   obtain ⟨b,o,ecs,rfl,hb,hn,hcell,hre⟩:=h.2 k _ (Hn hlt)
   have hcall:=hf.out xs[k] wr ecs (Ho _) hbr.out (lW.more (lW.keep hre fun q hq=>hbr.out.cell hq) hbr.out.size)
   have hcw:=fun j u hu=>(hbr.out.cell (p:=⟨b,o+k*5+j,none⟩) hb).trans (hcell j u hu)
   obtain ⟨P1,P2,P3,P4,d1,d2,d3,d4,rfl,hs1,hs2,hs3,hs4,hs5⟩:=hre
   have x0:wr.cell? ⟨b,o+k*5,none⟩=_:=hcw 0 _ rfl
   have x1:wr.cell? ⟨b,o+k*5+1,none⟩=_:=hcw 1 _ rfl
   have x2:wr.cell? ⟨b,o+k*5+2,none⟩=_:=hcw 2 _ rfl
   have x3:wr.cell? ⟨b,o+k*5+3,none⟩=_:=hcw 3 _ rfl
   have x4:wr.cell? ⟨b,o+k*5+4,none⟩=_:=hcw 4 _ rfl
   clear h hcell hcw
   cases hp:q xs[k] with
   |true=>
    rw [hp] at hcall
    have hv:=aa (jJ hlt hc.out hp)
    clear hp
    replace hcall:=aa hcall
    go_wp2_with (go_at_fn fid;refine hcall.out.mono ?_;rintro e w' ⟨rfl,hb1⟩)
    go_ret
    exact ⟨aq hv.out.symm,hbr.out.trans (hb1.mono hbr.out.size)⟩
   |false=>
    rw [hp] at hcall
    have hv:=aa (cw hlt hc.out hp)
    clear hp
    replace hcall:=aa hcall
    go_wp2_with (go_at_fn fid;refine hcall.out.mono ?_;rintro e w' ⟨rfl,hb1⟩)
    go_roundw
    case rel=>exact ⟨k+1,by omega,by go_num,hv,aa (hbr.out.trans (hb1.mono hbr.out.size))⟩
    case measure=>simp [intOf];omega
  ·have hv:=aa (jK (dp hk hlt hc.out))
   go_wp2
   go_ret
   exact ⟨aq hv.out.symm,hbr.out⟩
theorem nT (fid:Nat) (lb:Array Value) (eg:∀ args w,(callFunc fid args).run prog w=.ok (.enter fid args) w) (q:eF→Bool) (A:Option Addr) (cap:Nat) (xs:List eF) (w:World) (h:Sl 5 qz w w.heap.size A xs) (hf:Dk qz w.heap.size fid lb q xs w):
  Calls prog 53 #[.slice A xs.length cap,.func (.func fid) #[] lb] w fun e w'=>e=.returned (.bool (xs.any q))∧Below w.heap.size w w':=by
 have hv:=aa (eB q xs)
 replace hf:=aa hf
 go_enter func53,ntmps53
 go_wp2_with (go_at_call 111;refine (sY fid lb eg q A cap xs _ h hf.out).mono ?_;rintro e w' ⟨rfl,hb⟩)
 go_ret
 exact ⟨ad hv.out,hb⟩
theorem yA:∀ args w,(callFunc 95 args).run prog w=.ok (.enter 95 args) w:=enters_of func95 (by kernel_rfl) rfl
theorem BB (n:Int) (w:World):Calls prog 95 #[.int .i64 n] w fun e w'=>e=.returned (.bool (!aj n))∧w=w':=by
 go_enter func95,ntmps95
 go_wp2_with (go_at_call 96;refine (jq n _).mono ?_;rintro e w' ⟨rfl,rfl⟩)
 go_ret
 exact ⟨rfl,rfl⟩
theorem sZ {α:Type} (q:α→Bool) (l:List α):(l.any fun x=> !q x)= !l.all q:=by
 induction l with
 |nil=>rfl
 |cons x l ih=>simp only [List.any_cons,List.all_cons,ih,Bool.not_and]
theorem fF (A:Option Addr) (cap:Nat) (xs:List Int) (m:Nat) (w:World) (h:Sl 1 bd w w.heap.size A xs):
  Calls prog 45 #[.slice A xs.length cap,.int .i64 (m:Int)] w fun e w'=>e=.returned (.bool (eh xs m))∧Below w.heap.size w w':=by
 have hl:=h.len
 have hF:FJ w.heap.size 95 #[] (fun t=> !aj t) xs w:=fun t W _ _=>(BB t W).mono fun e w' ⟨he,hq⟩=>⟨he,by rw [hq];exact Hf _ _⟩
 have hC:=fZ 95 #[] yA (fun t=> !aj t) A cap xs w h hF
 rw [sZ] at hC
 have hv:=aa (show eh xs m=(decide (xs.length≤m)&&xs.all aj) from rfl)
 generalize xs.all aj=z at hC hv
 replace hC:=aa hC
 clear hF h
 by_cases h1:xs.length≤m
 ·have h1z:(xs.length:Int)≤(m:Int):=by omega
  have h1d:decide ((xs.length:Int)≤(m:Int))=true:=decide_eq_true h1z
  rw [decide_eq_true h1,Hk] at hv
  go_enter func45,ntmps45
  cases z
  all_goals
   go_wp2_with (go_at_call 94;refine hC.out.mono ?_;rintro e w3 ⟨rfl,hb3⟩)
   go_ret
   exact ⟨ad hv.out.symm,hb3⟩
 ·have h1z:¬(xs.length:Int)≤(m:Int):=by omega
  have h1d:decide ((xs.length:Int)≤(m:Int))=false:=decide_eq_false h1z
  rw [decide_eq_false h1,Hg] at hv
  go_enter func45,ntmps45
  go_wp2
  go_ret
  exact ⟨ad hv.out.symm,Hf _ _⟩
theorem yB (l:List Int) (x:Int):∀ n,jo n (l++ [x])=wrap64 (jo n l+x):=by
 induction l with
 |nil=>intro n;rfl
 |cons y l ih=>intro n;simp only [H6,jo];exact ih _
theorem pT {l:List Int} {k:Nat} (hk:k<l.length):jo 0 (l.take (k+1))=wrap64 (jo 0 (l.take k)+l[k]):=by rw [HR hk,yB]
theorem s7 (A:Option Addr) (cap:Nat) (xs:List Int) (w:World) (h:Sl 1 bd w w.heap.size A xs):
  Calls prog 44 #[.slice A xs.length cap] w fun e w'=>e=.returned (.bool (b8 xs))∧Below w.heap.size w w':=by
 have hl:=h.len
 have hC:=fF A cap xs 16 w h
 have hv:=aa (show b8 xs=(decide (1≤xs.length)&&eh xs 16&&decide ((jo 0 xs).tmod 8=0)&&decide (jo 0 xs≤256)) from rfl)
 generalize eh xs 16=z at hC hv
 replace hC:=aa hC
 go_enter func44,ntmps44
 go_wp2
 go_loop [3,5,8] (fun s _ i=>∃ k:Nat,k≤xs.length∧i=.int .i64 k∧∃ n,s=.int .i64 n∧Hid (jo 0 (xs.take k)=n)) (fun _ _ i=>xs.length-(intOf i).toNat)
 case atStart=>exact ⟨0,Hm _,rfl,0,rfl,aa rfl⟩
 case round=>
  obtain ⟨k,hk,rfl,n,rfl,hn⟩:=hrel
  by_cases hlt:k<xs.length
  focus
   obtain ⟨b,o,rfl,hb,hcell⟩:=h.int hlt
   have hkz:(k:Int)<(xs.length:Int):=by omega
   have hs:=aa (show jo 0 (xs.take (k+1))=wrap64 (n+xs[k]) from by rw [pT hlt,hn.out])
   go_wp2
   go_round
   case rel=>exact ⟨k+1,by omega,by go_num,_,rfl,hs⟩
   case measure=>simp [intOf];omega
  rotate_right
  focus
   have hke:k=xs.length:=by omega
   rw [hke,HZ] at hn
   rw [hn.out] at hv
   by_cases h1:1≤xs.length
   focus
    have h1z:(1:Int)≤(xs.length:Int):=by omega
    rw [decide_eq_true h1,Hk] at hv
    cases z
    rw [Hg,Hg] at hv
    rotate_right
    focus
     rw [Hk] at hv
     by_cases h2:n.tmod 8=0
     focus
      rw [decide_eq_true h2,Hk] at hv
      have h2z:(n.tmod 8==0)=true:=by rw [beq_iff_eq];exact h2
      replace h2:=aa h2
      go_wp2_with (go_at_call 45;refine hC.out.mono ?_;rintro e w3 ⟨rfl,hb3⟩)
      all_goals go_ret
      all_goals exact ⟨ad (by rw [hv.out]<;>first|rfl|simp [*]|(simp;omega)),hb3⟩
     rotate_right
     rw [decide_eq_false h2,Hg] at hv
     have h2z:(n.tmod 8==0)=false:=beq_eq_false_iff_ne.2 h2
   rotate_right
   focus
    have h1z:¬(1:Int)≤(xs.length:Int):=by omega
    rw [decide_eq_false h1,Hg,Hg,Hg] at hv
    go_wp2
    go_ret
    exact ⟨ad hv.out.symm,Hf _ _⟩
  all_goals
   go_wp2_with (go_at_call 45;refine hC.out.mono ?_;rintro e w3 ⟨rfl,hb3⟩)
   go_ret
   exact ⟨ad hv.out.symm,hb3⟩
theorem ja (A:Option Addr) (cap:Nat) (xs:List Int) (w:World) (h:Sl 1 bd w w.heap.size A xs):
  Calls prog 62 #[.slice A xs.length cap] w fun e w'=>e=.returned (.bool (xs.all aj))∧w=w':=by
 have hl:=h.len
 have hv:=aa (fK aj xs)
 go_enter func62,ntmps62
 go_wp2
 go_loop [3] (fun i=>∃ k:Nat,k≤xs.length∧i=.int .i64 k∧Hid (am (aK aj xs) k=true)) (fun i=>xs.length-(intOf i).toNat)
 case atStart=>exact ⟨0,Hm _,rfl,aa rfl⟩
 case round=>
  obtain ⟨k,hk,rfl,hc⟩:=hrel
  by_cases hlt:k<xs.length
  ·obtain ⟨b,o,rfl,hb,hcell⟩:=h.int hlt
   have hkz:(k:Int)<(xs.length:Int):=by omega
   have hN:=aa (fun (g:aj xs[k]=true)=>show am (aK aj xs) (k+1)=true from by rw [am,hc.out,ag _ hlt,g];rfl)
   have hlo:=aa (fun (g:aj xs[k]=false)=>show am (aK aj xs) xs.length=false from aN hlt (by rw [ag _ hlt];exact g))
   have hK:=qC xs[k]
   generalize aj xs[k]=z at hK hN hlo
   cases z with
   |false=>
    replace hlo:=aa (hlo.out rfl)
    go_wp2_with (go_at_call 121;refine (hK _).mono ?_;rintro e w' ⟨rfl,rfl⟩)
    go_ret
    exact ⟨ad (by rw [hv.out,hlo.out]),rfl⟩
   |true=>
    replace hN:=aa (hN.out rfl)
    go_wp2_with (go_at_call 121;refine (hK _).mono ?_;rintro e w' ⟨rfl,rfl⟩)
    go_round
    case rel=>exact ⟨k+1,by omega,by go_num,hN⟩
    case measure=>simp [intOf];omega
  ·have hke:k=xs.length:=by omega
   subst hke
   go_wp2
   go_ret
   exact ⟨ad (by rw [hv.out,hc.out]),rfl⟩
theorem yC:∀ args w,(callFunc 98 args).run prog w=.ok (.enter 98 args) w:=enters_of func98 (by kernel_rfl) rfl
theorem yD:∀ args w,(callFunc 43 args).run prog w=.ok (.enter 43 args) w:=enters_of func43 (by kernel_rfl) rfl
theorem BC (A B:Option Addr) (n m c d:Nat) (w:World) (hn:n≤9223372036854775807) (hm:m≤9223372036854775807):Calls prog 98 #[.slice A n c,.slice B m d] w fun e w'=>e=.returned (.bool (decide (n=m)))∧w=w':=by
 by_cases h:n=m
 have hz:((n:Int)==(m:Int))=true:=by rw [beq_iff_eq];omega
 have hv:=aa (decide_eq_true h)
 replace h:=aa h
 rotate_right
 have hz:((n:Int)==(m:Int))=false:=by rw [beq_eq_false_iff_ne];omega
 have hv:=aa (decide_eq_false h)
 all_goals
  go_enter func98,ntmps98
  go_wp2
  go_ret
  exact ⟨ad hv.out.symm,rfl⟩
def kH (l:List Int) (n:List ByteArray):Bool:=decide (l.length=n.length)
theorem Sl.strs {w:World} {B:Nat} {A:Option Addr} {xs:List (List ByteArray)} (h:Sl 1 (oD 1 bZ) w B A xs) {i:Nat} (hi:i<xs.length):∃ b o A' c',A=some ⟨b,o,none⟩∧b<B∧w.cell? ⟨b,o+i,none⟩=some (.slice A' xs[i].length c')∧xs[i].length≤9223372036854775807:=by
 obtain ⟨b,o,u,hA,hb,hc,A',c',hr,hs⟩:=h.at1 hi
 cases hr
 exact ⟨b,o,A',c',hA,hb,hc,hs.len⟩
theorem ta (A A':Option Addr) (cap cap':Nat) (xs:List (List Int)) (ys:List (List ByteArray)) (w:World) (h:Sl 1 (oD 1 bd) w w.heap.size A xs) (h':Sl 1 (oD 1 bZ) w w.heap.size A' ys):
  Calls prog 97 #[.slice A xs.length cap,.slice A' ys.length cap',.func (.func 98) #[] #[]] w fun e w'=>e=.returned (.bool (ci kH xs ys))∧w=w':=by
 have hl:=h.len
 have hl':=h'.len
 have eg:=yC
 go_enter func97,ntmps97
 by_cases he:xs.length=ys.length
 ·have hez:((xs.length:Int) !=(ys.length:Int))=false:=by rw [he];exact bne_self_eq_false _
  have hv:=aa (show ci kH xs ys=am (fun i=>aK (fun x=>aK (kH x) ys i) xs i) xs.length from by unfold ci;rw [decide_eq_true he,Hk])
  replace he:=aa he
  go_wp2
  go_loop [7,8,9,17] (fun _ _ _ i=>∃ k:Nat,k≤xs.length∧i=.int .i64 k∧Hid (am (fun i=>aK (fun x=>aK (kH x) ys i) xs i) k=true)) (fun _ _ _ i=>xs.length-(intOf i).toNat)
  case atStart=>exact ⟨0,Hm _,rfl,aa rfl⟩
  case round=>
   obtain ⟨k,hk,rfl,hc⟩:=hrel
   by_cases hlt:k<xs.length
   ·have hlt':k<ys.length:=by have:=he.out;omega
    have hkz:(k:Int)<(xs.length:Int):=by omega
    have hkz':(k:Int)<(ys.length:Int):=by omega
    obtain ⟨b,o,X1,x1,rfl,hb,hx,hxs⟩:=h.ints hlt
    obtain ⟨b',o',Y1,y1,rfl,hb',hy,hyl⟩:=h'.strs hlt'
    have hxl:=hxs.len
    have hstep:am (fun i=>aK (fun x=>aK (kH x) ys i) xs i) (k+1)=kH xs[k] ys[k]:=by
     rw [am,hc.out,Hk,ag _ hlt,ag _ hlt']
    have hlo:=aa (fun (g:kH xs[k] ys[k]=false)=>show am (fun i=>aK (fun x=>aK (kH x) ys i) xs i) xs.length=false from aN hlt (by rw [ag _ hlt,ag _ hlt'];exact g))
    have hK:Calls prog 98 #[.slice X1 xs[k].length x1,.slice Y1 ys[k].length y1] w fun e w'=>e=.returned (.bool (kH xs[k] ys[k]))∧w=w':=BC X1 Y1 _ _ x1 y1 w hxl hyl
    clear h h' hxs hc
    generalize kH xs[k] ys[k]=F at hK hstep hlo
    replace hK:=aa hK
    replace hstep:=aa hstep
    cases F with
    |false=>
     replace hlo:=aa (hlo.out rfl)
     go_wp2_with (go_at_fn 98;refine hK.out.mono ?_;rintro e w3 ⟨rfl,rfl⟩)
     go_ret
     exact ⟨ad (by rw [hv.out,hlo.out]),rfl⟩
    |true=>
     go_wp2_with (go_at_fn 98;refine hK.out.mono ?_;rintro e w3 ⟨rfl,rfl⟩)
     go_round
     case rel=>exact ⟨k+1,by omega,by go_num,hstep⟩
     case measure=>simp [intOf];omega
   ·have hke:k=xs.length:=by omega
    subst hke
    go_wp2
    go_ret
    exact ⟨ad (by rw [hv.out,hc.out]),rfl⟩
 ·have hez:((xs.length:Int) !=(ys.length:Int))=true:=by rw [bne_iff_ne];omega
  have hv:=aa (show ci kH xs ys=false from by unfold ci;rw [decide_eq_false he,Hg])
  clear h h'
  go_wp2
  go_ret
  exact ⟨ad hv.out.symm,rfl⟩
def GJ (B:Nat) (fid:Nat) (lb:Array Value) (q:List Int→Bool) (xs:List (List Int)) (w:World):Prop:=
 ∀ (x:List Int) (W:World) (A:Option Addr) (c:Nat),x∈xs→Below B w W→Sl 1 bd W W.heap.size A x→Calls prog fid (#[.slice A x.length c]++lb) W fun e w'=>e=.returned (.bool (q x))∧Below W.heap.size W w'
theorem uR (fid:Nat) (lb:Array Value) (eg:∀ args w,(callFunc fid args).run prog w=.ok (.enter fid args) w) (q:List Int→Bool) (A:Option Addr) (cap:Nat) (xs:List (List Int)) (w:World) (h:Sl 1 (oD 1 bd) w w.heap.size A xs) (hf:GJ w.heap.size fid lb q xs w):
  Calls prog 93 #[.slice A xs.length cap,.func (.func fid) #[] lb] w fun e w'=>e=.returned (.int .i64 (lQ q xs))∧Below w.heap.size w w':=by
 have hl:=h.len
 replace hf:=aa hf
 go_enter func93,ntmps93
 go_wp2
 go_loopw [5,8] (fun _ i wr=>∃ k:Nat,k≤xs.length∧i=.int .i64 k∧Hid ((xs.take k).any q=false)∧Hid (Below w.heap.size w wr)) (fun _ i _=>xs.length-(intOf i).toNat)
 case atStart=>exact ⟨0,Hm _,rfl,aa (by simp),aa (Hf _ _)⟩
 case round=>
  obtain ⟨k,hk,rfl,hc,hbr⟩:=hrel
  by_cases hlt:k<xs.length
  ·have hltz:(k:Int)<(xs.length:Int):=by omega
   obtain ⟨b,o,A',c',rfl,hb,hcell,hs⟩:=h.ints hlt
   have hcall:=hf.out xs[k] wr A' c' (Ho _) hbr.out ((hs.below ai hbr.out).more ai hbr.out.size)
   have x0:=(hbr.out.cell (p:=⟨b,o+k,none⟩) hb).trans hcell
   clear h hcell hs
   cases hp:q xs[k] with
   |true=>
    rw [hp] at hcall
    have hv:=aa (jJ hlt hc.out hp)
    clear hp
    replace hcall:=aa hcall
    go_wp2_with (go_at_fn fid;refine hcall.out.mono ?_;rintro e w' ⟨rfl,hb1⟩)
    go_ret
    exact ⟨aq hv.out.symm,hbr.out.trans (hb1.mono hbr.out.size)⟩
   |false=>
    rw [hp] at hcall
    have hv:=aa (cw hlt hc.out hp)
    clear hp
    replace hcall:=aa hcall
    go_wp2_with (go_at_fn fid;refine hcall.out.mono ?_;rintro e w' ⟨rfl,hb1⟩)
    go_roundw
    case rel=>exact ⟨k+1,by omega,by go_num,hv,aa (hbr.out.trans (hb1.mono hbr.out.size))⟩
    case measure=>simp [intOf];omega
  ·have hv:=aa (jK (dp hk hlt hc.out))
   go_wp2
   go_ret
   exact ⟨aq hv.out.symm,hbr.out⟩
theorem tc (A:Option Addr) (c:Nat) (x:List Int) (w:World) (h:Sl 1 bd w w.heap.size A x):Calls prog 43 #[.slice A x.length c] w fun e w'=>e=.returned (.bool (!b8 x))∧Below w.heap.size w w':=by
 have hC:=aa (s7 A c x w h)
 clear h
 go_enter func43,ntmps43
 go_wp2_with (go_at_call 44;refine hC.out.mono ?_;rintro e w' ⟨rfl,hb⟩)
 go_ret
 exact ⟨rfl,hb⟩
theorem yE (A:Option Addr) (cap:Nat) (xs:List (List Int)) (w:World) (h:Sl 1 (oD 1 bd) w w.heap.size A xs):
  Calls prog 42 #[.slice A xs.length cap,.func (.func 43) #[] #[]] w fun e w'=>e=.returned (.bool (!xs.all b8))∧Below w.heap.size w w':=by
 have hF:GJ w.heap.size 43 #[] (fun x=> !b8 x) xs w:=fun x W A c _ _ hs=>tc A c x W hs
 have hX:=uR 43 #[] yD (fun x=> !b8 x) A cap xs w h hF
 have hv:=eB (fun x=> !b8 x) xs
 rw [sZ] at hv
 generalize lQ (fun x=> !b8 x) xs=r at hX hv
 replace hX:=aa hX
 replace hv:=aa hv
 clear hF h
 go_enter func42,ntmps42
 go_wp2_with (go_at_call 93;refine hX.out.mono ?_;rintro e w' ⟨rfl,hb⟩)
 go_ret
 exact ⟨ad hv.out,hb⟩
theorem qX (A1 A2 A3 A4 A5 A6 A7 A8 A9 A10 A11 A12:Option Addr) (p:Lp) (c1 c2 c3 c4 c5 c6 c7 c8 c9 c10 c11 c12:Nat) (w:World) (h:cJ w w.heap.size A1 A2 A3 A4 A5 A6 A7 A8 A9 A10 A11 A12 p):
  Calls prog 46 #[.agg #[.slice A1 p.heads.length c1,.slice A2 p.metas.length c2,.slice A3 p.steps.length c3,.slice A4 p.acts.length c4,.slice A5 p.tabs.length c5,.slice A6 p.control.length c6,.slice A7 p.emit.length c7,.slice A8 p.nh.length c8,.slice A9 p.nf.length c9,.slice A10 p.nm.length c10,.slice A11 p.na.length c11,.slice A12 p.nt.length c12]] w fun e w'=>e=.returned (.bool (gP p))∧Below w.heap.size w w':=by
 have l1:=h.heads.len
 have l2:=h.metas.len
 have l4:=h.acts.len
 have l5:=h.tabs.len
 have l8:=h.nh.len
 have l10:=h.nm.len
 have l11:=h.na.len
 have l12:=h.nt.len
 obtain ⟨wz,hwz,hsz,hbz,hcz,-⟩:=ak w #[.slice A1 p.heads.length c1,.slice A2 p.metas.length c2,.slice A3 p.steps.length c3,.slice A4 p.acts.length c4,.slice A5 p.tabs.length c5,.slice A6 p.control.length c6,.slice A7 p.emit.length c7,.slice A8 p.nh.length c8,.slice A9 p.nf.length c9,.slice A10 p.nm.length c10,.slice A11 p.na.length c11,.slice A12 p.nt.length c12] 33
 obtain ⟨wa,hwa,hsa,hba,hca,-⟩:=ak wz #[.slice A8 p.nh.length c8,.slice A9 p.nf.length c9,.slice A10 p.nm.length c10,.slice A11 p.na.length c11,.slice A12 p.nt.length c12] 31
 have Y:=fun i=>(bH hba w.heap.size i (by omega)).trans (hcz i)
 rw [hsz] at hca
 have k1:w.heap.size<wa.heap.size:=by omega
 have k0:w.heap.size<wz.heap.size:=by omega
 have k2:w.heap.size+1<wa.heap.size:=by omega
 have hw:Below w.heap.size w wa:=hbz.trans (hba.mono (by omega))
 have x0:wa.cell? ⟨w.heap.size+1,0,none⟩=some (.slice A8 p.nh.length c8):=hca 0
 have x1:wa.cell? ⟨w.heap.size+1,1,none⟩=some (.slice A9 p.nf.length c9):=hca 1
 have x2:wa.cell? ⟨w.heap.size+1,2,none⟩=some (.slice A10 p.nm.length c10):=hca 2
 have x3:wa.cell? ⟨w.heap.size+1,3,none⟩=some (.slice A11 p.na.length c11):=hca 3
 have x4:wa.cell? ⟨w.heap.size+1,4,none⟩=some (.slice A12 p.nt.length c12):=hca 4
 have y0:=Y 0
 have y1:=Y 1
 have y3:=Y 3
 have y4:=Y 4
 have z7:=hcz 7
 have z8:=hcz 8
 have z9:=hcz 9
 have z10:=hcz 10
 have z11:=hcz 11
 simp only [HH,HK,HM] at y0 y1 y3 y4 z7 z8 z9 z10 z11
 have hE:=ta A1 A9 c1 c9 p.heads p.nf wa ((h.heads.below (eE ai) hw).more (eE ai) hw.size) ((h.nf.below (eE av) hw).more (eE av) hw.size)
 have hv:=aa (show gP p=(ci kH p.heads p.nf&&decide (p.nh.length=p.heads.length)&&decide (p.nm.length=p.metas.length)&&decide (p.na.length=p.acts.length)&&decide (p.nt.length=p.tabs.length)) from rfl)
 generalize ci kH p.heads p.nf=z at hE hv
 replace hE:=aa hE
 replace hw:=aa hw
 replace hsa:=aa hsa
 clear h hca hcz hba hbz Y
 cases z
 rw [Hg,Hg,Hg,Hg] at hv
 rotate_right
 focus
  rw [Hk] at hv
  by_cases a1:p.nh.length=p.heads.length
  focus
   have a1z:((p.nh.length:Int)==(p.heads.length:Int))=true:=by rw [beq_iff_eq];omega
   rw [decide_eq_true a1,Hk] at hv
   replace a1:=aa a1
   by_cases a2:p.nm.length=p.metas.length
   focus
    have a2z:((p.nm.length:Int)==(p.metas.length:Int))=true:=by rw [beq_iff_eq];omega
    rw [decide_eq_true a2,Hk] at hv
    replace a2:=aa a2
    by_cases a3:p.na.length=p.acts.length
    focus
     have a3z:((p.na.length:Int)==(p.acts.length:Int))=true:=by rw [beq_iff_eq];omega
     rw [decide_eq_true a3,Hk] at hv
     replace a3:=aa a3
     by_cases a4:p.nt.length=p.tabs.length
     have a4z:((p.nt.length:Int)==(p.tabs.length:Int))=true:=by rw [beq_iff_eq];omega
     rw [decide_eq_true a4] at hv
     replace a4:=aa a4
     rotate_right
     have a4z:((p.nt.length:Int)==(p.tabs.length:Int))=false:=by rw [beq_eq_false_iff_ne];omega
     rw [decide_eq_false a4] at hv
    rotate_right
    have a3z:((p.na.length:Int)==(p.acts.length:Int))=false:=by rw [beq_eq_false_iff_ne];omega
    rw [decide_eq_false a3,Hg] at hv
   rotate_right
   have a2z:((p.nm.length:Int)==(p.metas.length:Int))=false:=by rw [beq_eq_false_iff_ne];omega
   rw [decide_eq_false a2,Hg,Hg] at hv
  rotate_right
  have a1z:((p.nh.length:Int)==(p.heads.length:Int))=false:=by rw [beq_eq_false_iff_ne];omega
  rw [decide_eq_false a1,Hg,Hg,Hg] at hv
 all_goals
  go_enter func46,ntmps46
  go_wp2_with (go_at_call 97;refine hE.out.mono ?_;rintro e w' ⟨rfl,rfl⟩)
  go_ret
  exact ⟨ad hv.out.symm,hw.out⟩
theorem Dl (p:Lp) (C:Option Addr) (sc x y z:Nat) (ws:List Int) (WB:Option Addr) (wc:Nat) (b:Br) (PA:Option Addr) (pc:Nat) (w:World) (hl:p.steps.length≤9223372036854775807) (hP:Sl 4 mR w w.heap.size PA b.pats) (hW:Sl 1 bd w w.heap.size WB ws)
  (hc:w.cell? ⟨x,2,none⟩=some (.slice C p.steps.length sc)) (hf:w.cell? ⟨y,0,none⟩=some (.func (.func 102) #[] #[.pointer (some ⟨x,0,none⟩)])) (hz:w.cell? ⟨z,0,none⟩=some (.slice WB ws.length wc)) (lx:x<w.heap.size) (ly:y<w.heap.size) (lz:z<w.heap.size):
  Calls prog 106 #[.agg #[.slice PA b.pats.length pc,.int .i64 b.to],.pointer (some ⟨y,0,none⟩),.pointer (some ⟨z,0,none⟩)] w fun e w'=>e=.returned (.bool (!(gJ p b.to&&ci ef b.pats ws)))∧Below w.heap.size w w':=by
 obtain ⟨pats,tt⟩:=b
 simp only at hP ⊢
 obtain ⟨wa,hwa,hsa,hba,hca,-⟩:=ak w #[.slice PA pats.length pc,.int .i64 tt] 104
 have b0:wa.cell? ⟨w.heap.size,0,none⟩=some (.slice PA pats.length pc):=hca 0
 have b1:wa.cell? ⟨w.heap.size,1,none⟩=some (.int .i64 tt):=hca 1
 have c2:=(hba.cell (p:=⟨x,2,none⟩) lx).trans hc
 have f2:=(hba.cell (p:=⟨y,0,none⟩) ly).trans hf
 have z2:=(hba.cell (p:=⟨z,0,none⟩) lz).trans hz
 have hT:=sR p C sc x tt wa hl c2
 have hE:=aa (xU PA WB pc wc pats ws wa ((hP.below aL hba).more aL hba.size) ((hW.below ai hba).more ai hba.size))
 have l1:w.heap.size<wa.heap.size:=by omega
 have l2:=He lx hba.size
 have l3:=He ly hba.size
 have l4:=He lz hba.size
 replace hba:=aa hba
 replace hsa:=aa hsa
 clear hca hP hW hc hf hz
 generalize gJ p tt=T at hT ⊢
 generalize hG:ci ef pats ws=G
 replace hT:=aa hT
 cases T with
 |false=>
  go_enter func106,ntmps106
  go_wp2_with (go_at_call 102;refine hT.out.mono ?_;rintro e w' ⟨rfl,rfl⟩)
  go_ret
  exact ⟨rfl,hba.out⟩
 |true=>
  go_enter func106,ntmps106
  go_wp2_with (first|(go_at_call 102;refine hT.out.mono ?_;rintro e w' ⟨rfl,rfl⟩)|(go_at_call 107;refine hE.out.mono ?_;rintro e w3 ⟨rfl,hb3⟩;rw [hG]))
  go_ret
  exact ⟨ad (by simp),hba.out.trans (hb3.mono hba.out.size)⟩
theorem jL {α:Type} (q:α→Bool) (l:List α):(l.any fun x=> !q x)= !l.all q:=by
 induction l with
 |nil=>rfl
 |cons x l ih=>simp only [List.any_cons,List.all_cons,ih,Bool.not_and]
theorem td (A1 A2 A3 A4 A5 A6 A7 A8 A9 A10 A11 A12:Option Addr) (p:Lp) (c1 c2 c3 c4 c5 c6 c7 c8 c9 c10 c11 c12:Nat) (s:lI) (P1 P2 P3:Option Addr) (d1 d2 d3:Nat) (w:World) (h:cJ w w.heap.size A1 A2 A3 A4 A5 A6 A7 A8 A9 A10 A11 A12 p) (h1:Sl 1 bd w w.heap.size P1 s.takes) (h2:Sl 1 ro w w.heap.size P2 s.keys) (h3:Sl 2 xm w w.heap.size P3 s.brs) (h4:s.keys.length≤sm):
  Calls prog 51 #[.agg #[.slice A1 p.heads.length c1,.slice A2 p.metas.length c2,.slice A3 p.steps.length c3,.slice A4 p.acts.length c4,.slice A5 p.tabs.length c5,.slice A6 p.control.length c6,.slice A7 p.emit.length c7,.slice A8 p.nh.length c8,.slice A9 p.nf.length c9,.slice A10 p.nm.length c10,.slice A11 p.na.length c11,.slice A12 p.nt.length c12],.agg #[.slice P1 s.takes.length d1,.slice P2 s.keys.length d2,.slice P3 s.brs.length d3,.int .i64 s.to]] w fun e w'=>e=.returned (.bool (eI p s))∧Below w.heap.size w w':=by
 obtain ⟨takes,ks,brs,tt⟩:=s
 simp only at h1 h2 h3 h4 ⊢
 have lt1:=h1.len
 have lt2:=h2.len
 have lt3:=h3.len
 have ls:=h.steps.len
 have lh:=h.heads.len
 obtain ⟨wz,hwz,hsz,hbz,hcz,-⟩:=ak w #[.slice A1 p.heads.length c1,.slice A2 p.metas.length c2,.slice A3 p.steps.length c3,.slice A4 p.acts.length c4,.slice A5 p.tabs.length c5,.slice A6 p.control.length c6,.slice A7 p.emit.length c7,.slice A8 p.nh.length c8,.slice A9 p.nf.length c9,.slice A10 p.nm.length c10,.slice A11 p.na.length c11,.slice A12 p.nt.length c12] 33
 obtain ⟨wa,hwa,hsa,hba,hca,-⟩:=ak wz #[.slice P1 takes.length d1,.slice P2 ks.length d2,.slice P3 brs.length d3,.int .i64 tt] 100
 obtain ⟨wb,hwb,hsb,hbb,hcb,-⟩:=ak wa #[.func (.func 102) #[] #[.pointer (some ⟨w.heap.size,0,none⟩)]] 150
 obtain ⟨wc,hwc,hsc,hbc,hcc,-⟩:=ak wb #[.func (.func 103) #[] #[.pointer (some ⟨w.heap.size,0,none⟩)]] 150
 have hE2:Below wb.heap.size wb wc:=hbc
 have hE3:Below wa.heap.size wa wc:=hbb.trans (hbc.mono (by omega))
 have hE4:Below wz.heap.size wz wc:=hba.trans (hE3.mono (by omega))
 have hw:Below w.heap.size w wc:=hbz.trans (hE4.mono (by omega))
 have Y:=fun i=>(bH hE4 w.heap.size i (by omega)).trans (hcz i)
 have X:=fun i=>(bH hE3 wz.heap.size i (by omega)).trans (hca i)
 have T0:=(bH hE2 wa.heap.size 0 (by omega)).trans (hcb 0)
 have U0:=hcc 0
 simp only [hsb,hsa,hsz] at X T0 U0
 have k1:w.heap.size<wc.heap.size:=by omega
 have k2:w.heap.size+1<wc.heap.size:=by omega
 have k3:w.heap.size+1+1<wc.heap.size:=by omega
 have k4:w.heap.size+1+1+1<wc.heap.size:=by omega
 have x0:wc.cell? ⟨w.heap.size+1,0,none⟩=some (.slice P1 takes.length d1):=X 0
 have x1:wc.cell? ⟨w.heap.size+1,1,none⟩=some (.slice P2 ks.length d2):=X 1
 have x2:wc.cell? ⟨w.heap.size+1,2,none⟩=some (.slice P3 brs.length d3):=X 2
 have x3:wc.cell? ⟨w.heap.size+1,3,none⟩=some (.int .i64 tt):=X 3
 simp only [HH,HK] at T0 U0
 have y0:=Y 0
 have y1:=Y 1
 have y2:=Y 2
 have y3:=Y 3
 have y4:=Y 4
 have y5:=Y 5
 have y6:=Y 6
 have y7:=Y 7
 have y8:=Y 8
 have y9:=Y 9
 have y10:=Y 10
 have y11:=Y 11
 simp only [HH,HK,HM] at y0 y1 y2 y3 y4 y5 y6 y7 y8 y9 y10 y11
 have hK:=sQ A1 A2 A3 A4 A5 A6 A7 A8 A9 A10 A11 A12 p c1 c2 c3 c4 c5 c6 c7 c8 c9 c10 c11 c12 ks P2 d2 wc ((h.below hw).more hw.size) ((h2.below aS hw).more aS hw.size) h4
 have hT:=aa ((h1.below ai hw).more ai hw.size)
 have hB:=aa ((h3.below cz hw).more cz hw.size)
 have hv0:=aa (show eI p ⟨takes,ks,brs,tt⟩=match gz (fk p (-1)) ks with
  |none=>false
  |some ws=>decide (ks.length≤4)&&decide (takes.length≤8)&&takes.all (dJ p.heads.length)&&gJ p tt&&(if ks.length=0 then decide (brs.length=0) else
   decide (tt=0)&&decide (1≤brs.length)&&decide (brs.length≤16)&&brs.all fun b=>gJ p b.to&&ci ef b.pats ws) from rfl)
 replace hw:=aa hw
 replace hsc:=aa hsc
 unfold sP at hK
 clear X Y hca hcz hcb hcc hba hbz hbb hbc hE2 hE3 hE4 h h1 h2 h3
 go_enter func51,ntmps51
 cases ho:gz (fk p (-1)) ks with
 |none=>
  rw [ho] at hK hv0
  replace hK:=aa hK
  go_wp2_with (go_at_call 104;refine hK.out.mono ?_;rintro e w3 ⟨rfl,hb3⟩)
  go_ret
  exact ⟨ad hv0.out.symm,hw.out.trans ((hb3.mono hw.out.size).alloc (Hj hw.out.size hb3.size) _)⟩
 |some ws=>
  rw [ho] at hK hv0
  simp only at hv0
  replace hK:=aa hK
  go_upto_region 4 with (go_at_call 104;refine hK.out.mono ?_;rintro e w3 ⟨⟨B,cp,rfl,hI⟩,hb3⟩)
  obtain ⟨wd,hwd,hsd,hbd,hcd,-⟩:=ak w3 #[.slice B ws.length cp] 23
  have z0:wd.cell? ⟨w3.heap.size,0,none⟩=some (.slice B ws.length cp):=hcd 0
  have hD:Below wc.heap.size wc wd:=hb3.trans (hbd.mono hb3.size)
  have T0d:=(hD.cell (p:=⟨w.heap.size+1+1,0,none⟩) k3).trans T0
  have U0d:=(hD.cell (p:=⟨w.heap.size+1+1+1,0,none⟩) k4).trans U0
  have x0d:=(hD.cell (p:=⟨w.heap.size+1,0,none⟩) k2).trans x0
  have x1d:=(hD.cell (p:=⟨w.heap.size+1,1,none⟩) k2).trans x1
  have x2d:=(hD.cell (p:=⟨w.heap.size+1,2,none⟩) k2).trans x2
  have x3d:=(hD.cell (p:=⟨w.heap.size+1,3,none⟩) k2).trans x3
  have y0d:=(hD.cell (p:=⟨w.heap.size,0,none⟩) k1).trans y0
  have y2d:=(hD.cell (p:=⟨w.heap.size,2,none⟩) k1).trans y2
  have g1:=He k1 hD.size
  have g2:=He k2 hD.size
  have g3:=He k3 hD.size
  have g4:=He k4 hD.size
  have gw:w3.heap.size<wd.heap.size:=by omega
  have hTd:=(hT.out.below ai hD).more (B':=wd.heap.size) ai hD.size
  have hBd:=aa ((hB.out.below cz hD).more (B':=wd.heap.size) cz hD.size)
  obtain ⟨WA,wcp,ew,hWs⟩:=hI.sl
  injection ew with ew1 ew2 ew3
  subst ew1 ew3
  clear ew2
  have hWd:=aa ((hWs.below ai hbd).more (B':=wd.heap.size) ai hbd.size)
  have hwd':=aa (hw.out.trans (hD.mono hw.out.size))
  have hF:FJ wd.heap.size 105 #[.pointer (some ⟨w.heap.size+1+1+1,0,none⟩)] (fun t=> !dJ p.heads.length t) takes wd:=fun t W _ hW=>by
   refine (yz p A1 c1 w.heap.size (w.heap.size+1+1+1) t W lh ((hW.cell (p:=⟨w.heap.size,0,none⟩) g1).trans y0d) ((hW.cell (p:=⟨w.heap.size+1+1+1,0,none⟩) g4).trans U0d)).mono fun e w' ⟨he,hq⟩=>⟨he,by rw [hq];exact Hf _ _⟩
  have hM:=fZ 105 _ yx (fun t=> !dJ p.heads.length t) P1 d1 takes wd hTd hF
  rw [jL] at hM
  have hTo:=fun W (hc:W.cell? ⟨w.heap.size,2,none⟩=some (.slice A3 p.steps.length c3))=>sR p A3 c3 w.heap.size tt W ls hc
  replace hsd:=aa hsd
  have hgo:=aa (fun W (hW:Below wd.heap.size wd W)=>hwd'.out.trans (hW.mono hwd'.out.size))
  clear hI hb3 hbd hcd hWs hD hTd hF T0 U0 x0 x1 x2 x3 y0 y1 y2 y3 y4 y5 y6 y7 y8 y9 y10 y11 hK
  by_cases a1:ks.length≤4
  ·rw [decide_eq_true a1,Hk] at hv0
   have a1b:=decide_eq_true a1
   by_cases a2:takes.length≤8
   ·rw [decide_eq_true a2,Hk] at hv0
    have a2z:¬(8:Int)<(takes.length:Int):=by omega
    generalize takes.all (dJ p.heads.length)=M at hM hv0
    generalize gJ p tt=T at hTo hv0
    replace hM:=aa hM
    cases M with
    |false=>
     rw [Hg,Hg] at hv0
     rw [a1b]
     go_wp2_with (go_at_call 94;refine hM.out.mono ?_;rintro e w5 ⟨rfl,hb5⟩;have t5:=(hb5.cell (p:=⟨w.heap.size+1+1,0,none⟩) g3).trans T0d;have e3:=(hb5.cell (p:=⟨w.heap.size+1,3,none⟩) g2).trans x3d;have e1:=(hb5.cell (p:=⟨w.heap.size+1,1,none⟩) g2).trans x1d;have e2:=(hb5.cell (p:=⟨w.heap.size+1,2,none⟩) g2).trans x2d;have e0:=(hb5.cell (p:=⟨w.heap.size,2,none⟩) g1).trans y2d;have g5:=hb5.size;have q2:=He g2 g5;have q3:=He g3 g5)
     go_ret
     exact ⟨ad hv0.out.symm,hgo.out _ hb5⟩
    |true=>
     cases T with
     |false=>
      rw [Hk,Hg] at hv0
      rw [a1b]
      go_wp2_with (first|(go_at_call 94;refine hM.out.mono ?_;rintro e w5 ⟨rfl,hb5⟩;have t5:=(hb5.cell (p:=⟨w.heap.size+1+1,0,none⟩) g3).trans T0d;have e3:=(hb5.cell (p:=⟨w.heap.size+1,3,none⟩) g2).trans x3d;have e1:=(hb5.cell (p:=⟨w.heap.size+1,1,none⟩) g2).trans x1d;have e2:=(hb5.cell (p:=⟨w.heap.size+1,2,none⟩) g2).trans x2d;have e0:=(hb5.cell (p:=⟨w.heap.size,2,none⟩) g1).trans y2d;have g5:=hb5.size;have q2:=He g2 g5;have q3:=He g3 g5)|(go_at_call 102;refine (hTo _ e0).mono ?_;rintro e w' ⟨rfl,rfl⟩))
      go_ret
      exact ⟨ad hv0.out.symm,hgo.out _ hb5⟩
     |true=>
      rw [Hk,Hk] at hv0
      rw [a1b]
      go_upto_region 6 with (first|(go_at_call 94;refine hM.out.mono ?_;rintro e w5 ⟨rfl,hb5⟩;have t5:=(hb5.cell (p:=⟨w.heap.size+1+1,0,none⟩) g3).trans T0d;have e3:=(hb5.cell (p:=⟨w.heap.size+1,3,none⟩) g2).trans x3d;have e1:=(hb5.cell (p:=⟨w.heap.size+1,1,none⟩) g2).trans x1d;have e2:=(hb5.cell (p:=⟨w.heap.size+1,2,none⟩) g2).trans x2d;have e0:=(hb5.cell (p:=⟨w.heap.size,2,none⟩) g1).trans y2d;have g5:=hb5.size;have q2:=He g2 g5;have q3:=He g3 g5)|(go_at_call 102;refine (hTo _ e0).mono ?_;rintro e w' ⟨rfl,rfl⟩))
      have hgo5:=aa (hgo.out _ hb5)
      by_cases b0:ks.length=0
      ·have b0z:((ks.length:Int)==0)=true:=by rw [beq_iff_eq];omega
       rw [if_pos b0] at hv0
       by_cases b1:brs.length=0
       ·have b1z:((brs.length:Int)==0)=true:=by rw [beq_iff_eq];omega
        rw [decide_eq_true b1] at hv0
        replace b0:=aa b0
        replace b1:=aa b1
        go_wp2
        go_ret
        exact ⟨ad hv0.out.symm,hgo5.out⟩
       ·have b1z:((brs.length:Int)==0)=false:=by rw [beq_eq_false_iff_ne];omega
        rw [decide_eq_false b1] at hv0
        replace b0:=aa b0
        go_wp2
        go_ret
        exact ⟨ad hv0.out.symm,hgo5.out⟩
      ·have b0z:((ks.length:Int)==0)=false:=by rw [beq_eq_false_iff_ne];omega
       rw [if_neg b0] at hv0
       by_cases b2:tt=0
       ·rw [decide_eq_true b2,Hk] at hv0
        subst b2
        by_cases b3:1≤brs.length
        ·rw [decide_eq_true b3,Hk] at hv0
         have b3z:(1:Int)≤(brs.length:Int):=by omega
         by_cases b4:brs.length≤16
         ·rw [decide_eq_true b4,Hk] at hv0
          have b4z:(brs.length:Int)≤16:=by omega
          have f5:=hb5.cell (p:=⟨w3.heap.size,0,none⟩) gw
          have hF5:Dk xm w5.heap.size 106 #[.pointer (some ⟨w.heap.size+1+1,0,none⟩),.pointer (some ⟨w3.heap.size,0,none⟩)] (fun b=> !(gJ p b.to&&ci ef b.pats ws)) brs w5:=fun b W cs _ hW hr=>by
           obtain ⟨PA,pc,rfl,hs⟩:=hr
           exact Dl p A3 c3 w.heap.size (w.heap.size+1+1) w3.heap.size ws B cp b PA pc W ls hs (((hWd.out.below ai hb5).below ai (hW.mono g5)).more ai (Hj g5 hW.size)) ((hW.cell (p:=⟨w.heap.size,2,none⟩) (He g1 g5)).trans e0) ((hW.cell (p:=⟨w.heap.size+1+1,0,none⟩) q3).trans t5) ((hW.cell (p:=⟨w3.heap.size,0,none⟩) (He gw g5)).trans (f5.trans z0)) (He g1 (Hj g5 hW.size)) (He g3 (Hj g5 hW.size)) (He gw (Hj g5 hW.size))
          have hQ:=nR 106 _ yy _ P3 d3 brs w5 ((hBd.out.below cz hb5).more cz g5) hF5
          rw [jL] at hQ
          generalize (brs.all fun b=>gJ p b.to&&ci ef b.pats ws)=Z at hQ hv0
          replace hQ:=aa hQ
          clear hF5
          cases Z
          all_goals
           go_wp2_with (go_at_call 109;refine hQ.out.mono ?_;rintro e w6 ⟨rfl,hb6⟩)
           go_ret
           exact ⟨ad hv0.out.symm,hgo5.out.trans (hb6.mono hgo5.out.size)⟩
         ·rw [decide_eq_false b4,Hg] at hv0
          have b4z:¬(brs.length:Int)≤16:=by omega
          go_wp2
          go_ret
          exact ⟨ad hv0.out.symm,hgo5.out⟩
        ·rw [decide_eq_false b3,Hg,Hg] at hv0
         have b3z:¬(1:Int)≤(brs.length:Int):=by omega
         go_wp2
         go_ret
         exact ⟨ad hv0.out.symm,hgo5.out⟩
       ·rw [decide_eq_false b2,Hg,Hg,Hg] at hv0
        have b2z:(tt==0)=false:=beq_eq_false_iff_ne.2 b2
        go_wp2
        go_ret
        exact ⟨ad hv0.out.symm,hgo5.out⟩
   ·rw [decide_eq_false a2,Hg,Hg,Hg] at hv0
    have a2z:(8:Int)<(takes.length:Int):=by omega
    rw [a1b]
    go_wp2
    go_ret
    exact ⟨ad hv0.out.symm,hwd'.out⟩
  ·rw [decide_eq_false a1,Hg,Hg,Hg,Hg] at hv0
   have a1b:=decide_eq_false a1
   rw [a1b]
   go_wp2
   go_ret
   exact ⟨ad hv0.out.symm,hwd'.out⟩
theorem jM (A:Option Addr) (cap:Nat) (xs:List Int) (n:Nat) (w:World) (h:Sl 1 bd w w.heap.size A xs):
  Calls prog 47 #[.slice A xs.length cap,.int .i64 (n:Int)] w fun e w'=>e=.returned (.bool (oG xs n))∧w=w':=by
 have hl:=h.len
 have hv:=aa (show oG xs n=am (fun i=>aK (fun x=>dJ n x&& !decide (aU xs x<i)) xs i) xs.length from rfl)
 generalize hF:(fun i:Nat=>aK (fun x=>dJ n x&& !decide (aU xs x<i)) xs i)=F at hv
 have hI:=aa (fun y=>nD A cap xs y w h)
 go_enter func47,ntmps47
 go_wp2
 go_loop [5,6,9] (fun _ _ i=>∃ k:Nat,k≤xs.length∧i=.int .i64 k∧Hid (am F k=true)) (fun _ _ i=>xs.length-(intOf i).toNat)
 case atStart=>exact ⟨0,Hm _,rfl,aa rfl⟩
 case round=>
  obtain ⟨k,hk,rfl,hc⟩:=hrel
  by_cases hlt:k<xs.length
  focus
   obtain ⟨b,o,rfl,hb,hcell⟩:=h.int hlt
   have hkz:(k:Int)<(xs.length:Int):=by omega
   have hFk:F k=(dJ n xs[k]&& !decide (aU xs xs[k]<k)):=by rw [←hF];simp only [ag _ hlt]
   have hN:=aa (fun (g:F k=true)=>show am F (k+1)=true from by rw [am,hc.out,g];rfl)
   have hlo:=aa (fun (g:F k=false)=>show am F xs.length=false from aN hlt g)
   clear h hF
   generalize xs[k]=x at*
   by_cases c1:x<0
   have d1:decide (x<0)=true:=decide_eq_true c1
   rotate_right
   focus
    have d1:decide (x<0)=false:=decide_eq_false c1
    by_cases c2:(n:Int)≤x
    rotate_right
    focus
     obtain ⟨y,rfl,hy⟩:=gk c1 c2
     rw [eY hy,Hk] at hFk
     have hIy:=hI.out (y:Int)
     clear hI
     generalize aU xs (y:Int)=f at hFk hIy
     replace hIy:=aa hIy
     by_cases c3:f<(k:Int)
     ·replace hlo:=aa (hlo.out (by rw [hFk,decide_eq_true c3];rfl))
      clear hFk hN
      go_wp2_with (go_at_call 99;refine hIy.out.mono ?_;rintro e w' ⟨rfl,rfl⟩)
      all_goals first|(exfalso;omega)|(go_ret;exact ⟨ad (by rw [hv.out,hlo.out]),rfl⟩)
     ·replace hN:=aa (hN.out (by rw [hFk,decide_eq_false c3];rfl))
      clear hFk hlo
      go_wp2_with (go_at_call 99;refine hIy.out.mono ?_;rintro e w' ⟨rfl,rfl⟩)
      all_goals try (exfalso;omega)
      go_round
      case rel=>exact ⟨k+1,by omega,by go_num,hN⟩
      case measure=>simp [intOf];omega
  rotate_right
  focus
   have hke:k=xs.length:=by omega
   subst hke
   go_wp2
   go_ret
   exact ⟨ad (by rw [hv.out,hc.out]),rfl⟩
  all_goals
   replace hlo:=aa (hlo.out (by rw [hFk,cj (by omega)];rfl))
   clear hFk hN
   go_wp2
   all_goals first|(exfalso;omega)|(go_ret;exact ⟨ad (by rw [hv.out,hlo.out]),rfl⟩)
end Go.Proofs.YtiebolhmdhdagaaGreatDoor

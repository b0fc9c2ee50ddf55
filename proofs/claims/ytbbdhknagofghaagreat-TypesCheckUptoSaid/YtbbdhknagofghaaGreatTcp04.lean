import Derived.Test.YtbbdhknagofghaaGreatTcp02
import Derived.Lib.Walk
import Derived.Shelf.Abstract
set_option linter.all false
set_option maxHeartbeats 1000000
open Go.Proofs.Tryz
namespace Go.Proofs.YtbbdhknagofghaaGreat
open _root_.Nat renaming lt_of_lt_of_le→Bg, zero_le→Bo
open _root_.Go.RowKit.Below renaming refl→Bi
open _root_.List renaming getElem?_eq_getElem→Bk, map_cons→BF, mem_cons→BI
open Go.RowKit
def fC {α:Type} (p:α→Bool) (xs:List α):Int:=match xs.findIdx? p with
 |some i=>(i:Int)
 |none=> -1
theorem dr {α:Type} {p:α→Bool} {xs:List α} {k:Nat} (hk:k<xs.length) (h:(xs.take k).any p=false) (hp:p xs[k]=true):fC p xs=(k:Int):=by
 have:xs.findIdx? p=some k:=by
  rw [List.findIdx?_eq_some_iff_getElem]
  refine ⟨hk,hp,fun j hj=> ?_⟩
  have:=List.any_eq_false.1 h xs[j] (List.mem_take_iff_getElem.2 ⟨j,by omega,rfl⟩)
  exact this
 rw [fC,this]
theorem dt {α:Type} {p:α→Bool} {xs:List α} (h:xs.any p=false):fC p xs= -1:=by
 have:xs.findIdx? p=none:=by
  rw [List.findIdx?_eq_none_iff]
  intro x hx
  simpa using List.any_eq_false.1 h x hx
 rw [fC,this]
theorem bP {α:Type} (p:α→Bool) (xs:List α):decide (0≤fC p xs)=xs.any p:=by
 unfold fC
 cases h:xs.findIdx? p with
 |none=>
  rw [List.findIdx?_eq_none_iff] at h
  have:xs.any p=false:=List.any_eq_false.2 fun x hx=>by simp [h x hx]
  rw [this];rfl
 |some i=>
  rw [List.findIdx?_eq_some_iff_getElem] at h
  obtain ⟨hi,hp,-⟩:=h
  rw [l9 hi hp]
  simp
theorem fD {α:Type} (f:α→ByteArray) (s:ByteArray) (xs:List α):fC (fun x=>decide (f x=s)) xs=bb (xs.map f) s:=by
 induction xs with
 |nil=>rfl
 |cons x l ih=>
  unfold fC bb at*
  simp only [List.findIdx?_cons,BF,BI]
  by_cases e:f x=s
  ·simp [e,wP]
  ·have e':¬s=f x:=fun h=>e h.symm
   simp only [e,e',decide_false,false_or,wP,if_false] at ih ⊢
   cases hf:l.findIdx? (fun x=>decide (f x=s)) with
   |none=>
    simp only [hf] at ih
    by_cases hm:s∈List.map f l
    ·rw [if_pos hm] at ih;exact absurd ih (by omega)
    ·rw [if_neg hm];simp
   |some i=>
    simp only [hf] at ih
    by_cases hm:s∈List.map f l
    ·rw [if_pos hm] at ih ⊢;simp;omega
    ·rw [if_neg hm] at ih;exact absurd ih (by omega)
def cB (cs:List Value):Value:=.agg cs.toArray
def yF (cs:List Value):Value:=cs.headD (.bool false)
def ew {α:Type} (vl:List Value→Value) (k B:Nat) (R:CR α) (fid:Nat) (lb:Array Value) (p:α→Bool) (xs:List α) (w:World):Prop:=
 ∀ (i:Nat) (x:α) (cs:List Value) (W:World),xs[i]? =some x→Below w.heap.size w W→R W B cs x→cs.length=k→Calls prog fid (#[vl cs]++lb) W fun e w'=>e=.returned (.bool (p x))∧Below W.heap.size W w'
theorem fE {α:Type} {R:CR α} (sR:dM R) {B:Nat} (fid:Nat) (lb:Array Value) (eg:∀ args w,(callFunc fid args).run prog w=.ok (.enter fid args) w) (p:α→Bool) (A:Option Addr) (cap:Nat) (xs:List α) (w:World) (hB:B≤w.heap.size) (h:Sl 2 R w B A xs) (hf:ew cB 2 B R fid lb p xs w):
  Calls prog 189 #[.slice A xs.length cap,.func (.func fid) #[] lb] w fun e w'=>e=.returned (.int .i64 (fC p xs))∧Below w.heap.size w w':=by
 have hl:=h.len
 replace hf:=aa hf
 go_enter func189,ntmps189
 go_wp2
 go_loopw [5,8] (fun _ i wr=>∃ k:Nat,k≤xs.length∧i=.int .i64 k∧Hid ((xs.take k).any p=false)∧Hid (Below w.heap.size w wr)) (fun _ i _=>xs.length-(intOf i).toNat)
 case atStart=>exact ⟨0,Bo _,rfl,aa (by simp),aa (Bi _ _)⟩
 case round=>
  obtain ⟨k,hk,rfl,hc,hbr⟩:=hrel
  have hcw:=ab hbr.out
  by_cases hlt:k<xs.length
  ·obtain ⟨b,o,ecs,rfl,hb0,hel,hcell,hr⟩:=h.2 k _ (Bk hlt)
   have hb:b<w.heap.size:=by omega
   match ecs,hel with
   | [a0,a1],_=>
    have x0:w.cell? ⟨b,o+k*2,none⟩=some a0:=by simpa using hcell 0 a0 rfl
    have x1:w.cell? ⟨b,o+k*2+1,none⟩=some a1:=by simpa using hcell 1 a1 rfl
    have hltz:(k:Int)<(xs.length:Int):=by omega
    have hcall:Calls prog fid (#[.agg #[a0,a1]]++lb) wr _:=hf.out k xs[k] [a0,a1] wr (Bk hlt) hbr.out (sR.keep hr fun q hq=>hbr.out.cell (Bg hq hB)) rfl
    clear h hcell hr
    cases hp:p xs[k] with
    |true=>
     rw [hp] at hcall
     have hv:=aa (dr hlt hc.out hp)
     clear hp
     go_wp2_with (go_at_fn fid;refine hcall.mono ?_;rintro e w' ⟨rfl,hb1⟩)
     go_ret
     exact ⟨ag hv.out.symm,hbr.out.trans (hb1.mono hbr.out.size)⟩
    |false=>
     rw [hp] at hcall
     have hv:=aa (bt hlt hc.out hp)
     clear hp
     go_wp2_with (go_at_fn fid;refine hcall.mono ?_;rintro e w' ⟨rfl,hb1⟩)
     go_roundw
     case rel=>exact ⟨k+1,by omega,by go_num,hv,aa (hbr.out.trans (hb1.mono hbr.out.size))⟩
     case measure=>simp [intOf];omega
  ·have hv:=aa (dt (bO hk hlt hc.out))
   go_wp2
   go_ret
   exact ⟨ag hv.out.symm,hbr.out⟩
theorem gx {α:Type} {R:CR α} (sR:dM R) {B:Nat} (fid:Nat) (lb:Array Value) (eg:∀ args w,(callFunc fid args).run prog w=.ok (.enter fid args) w) (p:α→Bool) (A:Option Addr) (cap:Nat) (xs:List α) (w:World) (hB:B≤w.heap.size) (h:Sl 2 R w B A xs) (hf:ew cB 2 B R fid lb p xs w):
  Calls prog 188 #[.slice A xs.length cap,.func (.func fid) #[] lb] w fun e w'=>e=.returned (.int .i64 (fC p xs))∧Below w.heap.size w w':=by
 have hl:=h.len
 replace hf:=aa hf
 go_enter func188,ntmps188
 go_wp2
 go_loopw [5,8] (fun _ i wr=>∃ k:Nat,k≤xs.length∧i=.int .i64 k∧Hid ((xs.take k).any p=false)∧Hid (Below w.heap.size w wr)) (fun _ i _=>xs.length-(intOf i).toNat)
 case atStart=>exact ⟨0,Bo _,rfl,aa (by simp),aa (Bi _ _)⟩
 case round=>
  obtain ⟨k,hk,rfl,hc,hbr⟩:=hrel
  have hcw:=ab hbr.out
  by_cases hlt:k<xs.length
  ·obtain ⟨b,o,ecs,rfl,hb0,hel,hcell,hr⟩:=h.2 k _ (Bk hlt)
   have hb:b<w.heap.size:=by omega
   match ecs,hel with
   | [a0,a1],_=>
    have x0:w.cell? ⟨b,o+k*2,none⟩=some a0:=by simpa using hcell 0 a0 rfl
    have x1:w.cell? ⟨b,o+k*2+1,none⟩=some a1:=by simpa using hcell 1 a1 rfl
    have hltz:(k:Int)<(xs.length:Int):=by omega
    have hcall:Calls prog fid (#[.agg #[a0,a1]]++lb) wr _:=hf.out k xs[k] [a0,a1] wr (Bk hlt) hbr.out (sR.keep hr fun q hq=>hbr.out.cell (Bg hq hB)) rfl
    clear h hcell hr
    cases hp:p xs[k] with
    |true=>
     rw [hp] at hcall
     have hv:=aa (dr hlt hc.out hp)
     clear hp
     go_wp2_with (go_at_fn fid;refine hcall.mono ?_;rintro e w' ⟨rfl,hb1⟩)
     go_ret
     exact ⟨ag hv.out.symm,hbr.out.trans (hb1.mono hbr.out.size)⟩
    |false=>
     rw [hp] at hcall
     have hv:=aa (bt hlt hc.out hp)
     clear hp
     go_wp2_with (go_at_fn fid;refine hcall.mono ?_;rintro e w' ⟨rfl,hb1⟩)
     go_roundw
     case rel=>exact ⟨k+1,by omega,by go_num,hv,aa (hbr.out.trans (hb1.mono hbr.out.size))⟩
     case measure=>simp [intOf];omega
  ·have hv:=aa (dt (bO hk hlt hc.out))
   go_wp2
   go_ret
   exact ⟨ag hv.out.symm,hbr.out⟩
theorem gy {α:Type} {R:CR α} (sR:dM R) {B:Nat} (fid:Nat) (lb:Array Value) (eg:∀ args w,(callFunc fid args).run prog w=.ok (.enter fid args) w) (p:α→Bool) (A:Option Addr) (cap:Nat) (xs:List α) (w:World) (hB:B≤w.heap.size) (h:Sl 5 R w B A xs) (hf:ew cB 5 B R fid lb p xs w):
  Calls prog 190 #[.slice A xs.length cap,.func (.func fid) #[] lb] w fun e w'=>e=.returned (.int .i64 (fC p xs))∧Below w.heap.size w w':=by
 have hl:=h.len
 replace hf:=aa hf
 go_enter func190,ntmps190
 go_wp2
 go_loopw [5,8] (fun _ i wr=>∃ k:Nat,k≤xs.length∧i=.int .i64 k∧Hid ((xs.take k).any p=false)∧Hid (Below w.heap.size w wr)) (fun _ i _=>xs.length-(intOf i).toNat)
 case atStart=>exact ⟨0,Bo _,rfl,aa (by simp),aa (Bi _ _)⟩
 case round=>
  obtain ⟨k,hk,rfl,hc,hbr⟩:=hrel
  have hcw:=ab hbr.out
  by_cases hlt:k<xs.length
  ·obtain ⟨b,o,ecs,rfl,hb0,hel,hcell,hr⟩:=h.2 k _ (Bk hlt)
   have hb:b<w.heap.size:=by omega
   match ecs,hel with
   | [a0,a1,a2,a3,a4],_=>
    have x0:w.cell? ⟨b,o+k*5,none⟩=some a0:=by simpa using hcell 0 a0 rfl
    have x1:w.cell? ⟨b,o+k*5+1,none⟩=some a1:=by simpa using hcell 1 a1 rfl
    have x2:w.cell? ⟨b,o+k*5+2,none⟩=some a2:=by simpa using hcell 2 a2 rfl
    have x3:w.cell? ⟨b,o+k*5+3,none⟩=some a3:=by simpa using hcell 3 a3 rfl
    have x4:w.cell? ⟨b,o+k*5+4,none⟩=some a4:=by simpa using hcell 4 a4 rfl
    have hltz:(k:Int)<(xs.length:Int):=by omega
    have hcall:Calls prog fid (#[.agg #[a0,a1,a2,a3,a4]]++lb) wr _:=hf.out k xs[k] [a0,a1,a2,a3,a4] wr (Bk hlt) hbr.out (sR.keep hr fun q hq=>hbr.out.cell (Bg hq hB)) rfl
    clear h hcell hr
    cases hp:p xs[k] with
    |true=>
     rw [hp] at hcall
     have hv:=aa (dr hlt hc.out hp)
     clear hp
     go_wp2_with (go_at_fn fid;refine hcall.mono ?_;rintro e w' ⟨rfl,hb1⟩)
     go_ret
     exact ⟨ag hv.out.symm,hbr.out.trans (hb1.mono hbr.out.size)⟩
    |false=>
     rw [hp] at hcall
     have hv:=aa (bt hlt hc.out hp)
     clear hp
     go_wp2_with (go_at_fn fid;refine hcall.mono ?_;rintro e w' ⟨rfl,hb1⟩)
     go_roundw
     case rel=>exact ⟨k+1,by omega,by go_num,hv,aa (hbr.out.trans (hb1.mono hbr.out.size))⟩
     case measure=>simp [intOf];omega
  ·have hv:=aa (dt (bO hk hlt hc.out))
   go_wp2
   go_ret
   exact ⟨ag hv.out.symm,hbr.out⟩
theorem fF {α:Type} {R:CR α} (sR:dM R) {B:Nat} (fid:Nat) (lb:Array Value) (eg:∀ args w,(callFunc fid args).run prog w=.ok (.enter fid args) w) (p:α→Bool) (A:Option Addr) (cap:Nat) (xs:List α) (w:World) (hB:B≤w.heap.size) (h:Sl 3 R w B A xs) (hf:ew cB 3 B R fid lb p xs w):
  Calls prog 162 #[.slice A xs.length cap,.func (.func fid) #[] lb] w fun e w'=>e=.returned (.int .i64 (fC p xs))∧Below w.heap.size w w':=by
 have hl:=h.len
 replace hf:=aa hf
 go_enter func162,ntmps162
 go_wp2
 go_loopw [5,8] (fun _ i wr=>∃ k:Nat,k≤xs.length∧i=.int .i64 k∧Hid ((xs.take k).any p=false)∧Hid (Below w.heap.size w wr)) (fun _ i _=>xs.length-(intOf i).toNat)
 case atStart=>exact ⟨0,Bo _,rfl,aa (by simp),aa (Bi _ _)⟩
 case round=>
  obtain ⟨k,hk,rfl,hc,hbr⟩:=hrel
  have hcw:=ab hbr.out
  by_cases hlt:k<xs.length
  ·obtain ⟨b,o,ecs,rfl,hb0,hel,hcell,hr⟩:=h.2 k _ (Bk hlt)
   have hb:b<w.heap.size:=by omega
   match ecs,hel with
   | [a0,a1,a2],_=>
    have x0:w.cell? ⟨b,o+k*3,none⟩=some a0:=by simpa using hcell 0 a0 rfl
    have x1:w.cell? ⟨b,o+k*3+1,none⟩=some a1:=by simpa using hcell 1 a1 rfl
    have x2:w.cell? ⟨b,o+k*3+2,none⟩=some a2:=by simpa using hcell 2 a2 rfl
    have hltz:(k:Int)<(xs.length:Int):=by omega
    have hcall:Calls prog fid (#[.agg #[a0,a1,a2]]++lb) wr _:=hf.out k xs[k] [a0,a1,a2] wr (Bk hlt) hbr.out (sR.keep hr fun q hq=>hbr.out.cell (Bg hq hB)) rfl
    clear h hcell hr
    cases hp:p xs[k] with
    |true=>
     rw [hp] at hcall
     have hv:=aa (dr hlt hc.out hp)
     clear hp
     go_wp2_with (go_at_fn fid;refine hcall.mono ?_;rintro e w' ⟨rfl,hb1⟩)
     go_ret
     exact ⟨ag hv.out.symm,hbr.out.trans (hb1.mono hbr.out.size)⟩
    |false=>
     rw [hp] at hcall
     have hv:=aa (bt hlt hc.out hp)
     clear hp
     go_wp2_with (go_at_fn fid;refine hcall.mono ?_;rintro e w' ⟨rfl,hb1⟩)
     go_roundw
     case rel=>exact ⟨k+1,by omega,by go_num,hv,aa (hbr.out.trans (hb1.mono hbr.out.size))⟩
     case measure=>simp [intOf];omega
  ·have hv:=aa (dt (bO hk hlt hc.out))
   go_wp2
   go_ret
   exact ⟨ag hv.out.symm,hbr.out⟩
theorem gz {α:Type} {R:CR α} (sR:dM R) {B:Nat} (fid:Nat) (lb:Array Value) (eg:∀ args w,(callFunc fid args).run prog w=.ok (.enter fid args) w) (p:α→Bool) (A:Option Addr) (cap:Nat) (xs:List α) (w:World) (hB:B≤w.heap.size) (h:Sl 5 R w B A xs) (hf:ew cB 5 B R fid lb p xs w):
  Calls prog 195 #[.slice A xs.length cap,.func (.func fid) #[] lb] w fun e w'=>e=.returned (.int .i64 (fC p xs))∧Below w.heap.size w w':=by
 have hl:=h.len
 replace hf:=aa hf
 go_enter func195,ntmps195
 go_wp2
 go_loopw [5,8] (fun _ i wr=>∃ k:Nat,k≤xs.length∧i=.int .i64 k∧Hid ((xs.take k).any p=false)∧Hid (Below w.heap.size w wr)) (fun _ i _=>xs.length-(intOf i).toNat)
 case atStart=>exact ⟨0,Bo _,rfl,aa (by simp),aa (Bi _ _)⟩
 case round=>
  obtain ⟨k,hk,rfl,hc,hbr⟩:=hrel
  have hcw:=ab hbr.out
  by_cases hlt:k<xs.length
  ·obtain ⟨b,o,ecs,rfl,hb0,hel,hcell,hr⟩:=h.2 k _ (Bk hlt)
   have hb:b<w.heap.size:=by omega
   match ecs,hel with
   | [a0,a1,a2,a3,a4],_=>
    have x0:w.cell? ⟨b,o+k*5,none⟩=some a0:=by simpa using hcell 0 a0 rfl
    have x1:w.cell? ⟨b,o+k*5+1,none⟩=some a1:=by simpa using hcell 1 a1 rfl
    have x2:w.cell? ⟨b,o+k*5+2,none⟩=some a2:=by simpa using hcell 2 a2 rfl
    have x3:w.cell? ⟨b,o+k*5+3,none⟩=some a3:=by simpa using hcell 3 a3 rfl
    have x4:w.cell? ⟨b,o+k*5+4,none⟩=some a4:=by simpa using hcell 4 a4 rfl
    have hltz:(k:Int)<(xs.length:Int):=by omega
    have hcall:Calls prog fid (#[.agg #[a0,a1,a2,a3,a4]]++lb) wr _:=hf.out k xs[k] [a0,a1,a2,a3,a4] wr (Bk hlt) hbr.out (sR.keep hr fun q hq=>hbr.out.cell (Bg hq hB)) rfl
    clear h hcell hr
    cases hp:p xs[k] with
    |true=>
     rw [hp] at hcall
     have hv:=aa (dr hlt hc.out hp)
     clear hp
     go_wp2_with (go_at_fn fid;refine hcall.mono ?_;rintro e w' ⟨rfl,hb1⟩)
     go_ret
     exact ⟨ag hv.out.symm,hbr.out.trans (hb1.mono hbr.out.size)⟩
    |false=>
     rw [hp] at hcall
     have hv:=aa (bt hlt hc.out hp)
     clear hp
     go_wp2_with (go_at_fn fid;refine hcall.mono ?_;rintro e w' ⟨rfl,hb1⟩)
     go_roundw
     case rel=>exact ⟨k+1,by omega,by go_num,hv,aa (hbr.out.trans (hb1.mono hbr.out.size))⟩
     case measure=>simp [intOf];omega
  ·have hv:=aa (dt (bO hk hlt hc.out))
   go_wp2
   go_ret
   exact ⟨ag hv.out.symm,hbr.out⟩
theorem j8 {α:Type} {R:CR α} (sR:dM R) {B:Nat} (fid:Nat) (lb:Array Value) (eg:∀ args w,(callFunc fid args).run prog w=.ok (.enter fid args) w) (p:α→Bool) (A:Option Addr) (cap:Nat) (xs:List α) (w:World) (hB:B≤w.heap.size) (h:Sl 1 R w B A xs) (hf:ew yF 1 B R fid lb p xs w):
  Calls prog 203 #[.slice A xs.length cap,.func (.func fid) #[] lb] w fun e w'=>e=.returned (.int .i64 (fC p xs))∧Below w.heap.size w w':=by
 have hl:=h.len
 replace hf:=aa hf
 go_enter func203,ntmps203
 go_wp2
 go_loopw [5,8] (fun _ i wr=>∃ k:Nat,k≤xs.length∧i=.int .i64 k∧Hid ((xs.take k).any p=false)∧Hid (Below w.heap.size w wr)) (fun _ i _=>xs.length-(intOf i).toNat)
 case atStart=>exact ⟨0,Bo _,rfl,aa (by simp),aa (Bi _ _)⟩
 case round=>
  obtain ⟨k,hk,rfl,hc,hbr⟩:=hrel
  have hcw:=ab hbr.out
  by_cases hlt:k<xs.length
  ·obtain ⟨b,o,ecs,rfl,hb0,hel,hcell,hr⟩:=h.2 k _ (Bk hlt)
   have hb:b<w.heap.size:=by omega
   match ecs,hel with
   | [a0],_=>
    have x0:w.cell? ⟨b,o+k,none⟩=some a0:=by simpa using hcell 0 a0 rfl
    have hltz:(k:Int)<(xs.length:Int):=by omega
    have hcall:Calls prog fid (#[a0]++lb) wr _:=hf.out k xs[k] [a0] wr (Bk hlt) hbr.out (sR.keep hr fun q hq=>hbr.out.cell (Bg hq hB)) rfl
    clear h hcell hr
    cases hp:p xs[k] with
    |true=>
     rw [hp] at hcall
     have hv:=aa (dr hlt hc.out hp)
     clear hp
     go_wp2_with (go_at_fn fid;refine hcall.mono ?_;rintro e w' ⟨rfl,hb1⟩)
     go_ret
     exact ⟨ag hv.out.symm,hbr.out.trans (hb1.mono hbr.out.size)⟩
    |false=>
     rw [hp] at hcall
     have hv:=aa (bt hlt hc.out hp)
     clear hp
     go_wp2_with (go_at_fn fid;refine hcall.mono ?_;rintro e w' ⟨rfl,hb1⟩)
     go_roundw
     case rel=>exact ⟨k+1,by omega,by go_num,hv,aa (hbr.out.trans (hb1.mono hbr.out.size))⟩
     case measure=>simp [intOf];omega
  ·have hv:=aa (dt (bO hk hlt hc.out))
   go_wp2
   go_ret
   exact ⟨ag hv.out.symm,hbr.out⟩
theorem ms {α:Type} {R:CR α} (sR:dM R) {B:Nat} (fid:Nat) (lb:Array Value) (eg:∀ args w,(callFunc fid args).run prog w=.ok (.enter fid args) w) (p:α→Bool) (A:Option Addr) (cap:Nat) (xs:List α) (w:World) (hB:B≤w.heap.size) (h:Sl 9 R w B A xs) (hf:ew cB 9 B R fid lb p xs w):
  Calls prog 185 #[.slice A xs.length cap,.func (.func fid) #[] lb] w fun e w'=>e=.returned (.int .i64 (fC p xs))∧Below w.heap.size w w':=by
 have hl:=h.len
 replace hf:=aa hf
 go_enter func185,ntmps185
 go_wp2
 go_loopw [5,8] (fun _ i wr=>∃ k:Nat,k≤xs.length∧i=.int .i64 k∧Hid ((xs.take k).any p=false)∧Hid (Below w.heap.size w wr)) (fun _ i _=>xs.length-(intOf i).toNat)
 case atStart=>exact ⟨0,Bo _,rfl,aa (by simp),aa (Bi _ _)⟩
 case round=>
  obtain ⟨k,hk,rfl,hc,hbr⟩:=hrel
  have hcw:=ab hbr.out
  by_cases hlt:k<xs.length
  ·obtain ⟨b,o,ecs,rfl,hb0,hel,hcell,hr⟩:=h.2 k _ (Bk hlt)
   have hb:b<w.heap.size:=by omega
   match ecs,hel with
   | [a0,a1,a2,a3,a4,a5,a6,a7,a8],_=>
    have x0:w.cell? ⟨b,o+k*9,none⟩=some a0:=by simpa using hcell 0 a0 rfl
    have x1:w.cell? ⟨b,o+k*9+1,none⟩=some a1:=by simpa using hcell 1 a1 rfl
    have x2:w.cell? ⟨b,o+k*9+2,none⟩=some a2:=by simpa using hcell 2 a2 rfl
    have x3:w.cell? ⟨b,o+k*9+3,none⟩=some a3:=by simpa using hcell 3 a3 rfl
    have x4:w.cell? ⟨b,o+k*9+4,none⟩=some a4:=by simpa using hcell 4 a4 rfl
    have x5:w.cell? ⟨b,o+k*9+5,none⟩=some a5:=by simpa using hcell 5 a5 rfl
    have x6:w.cell? ⟨b,o+k*9+6,none⟩=some a6:=by simpa using hcell 6 a6 rfl
    have x7:w.cell? ⟨b,o+k*9+7,none⟩=some a7:=by simpa using hcell 7 a7 rfl
    have x8:w.cell? ⟨b,o+k*9+8,none⟩=some a8:=by simpa using hcell 8 a8 rfl
    have hltz:(k:Int)<(xs.length:Int):=by omega
    have hcall:Calls prog fid (#[.agg #[a0,a1,a2,a3,a4,a5,a6,a7,a8]]++lb) wr _:=hf.out k xs[k] [a0,a1,a2,a3,a4,a5,a6,a7,a8] wr (Bk hlt) hbr.out (sR.keep hr fun q hq=>hbr.out.cell (Bg hq hB)) rfl
    clear h hcell hr
    cases hp:p xs[k] with
    |true=>
     rw [hp] at hcall
     have hv:=aa (dr hlt hc.out hp)
     clear hp
     go_wp2_with (go_at_fn fid;refine hcall.mono ?_;rintro e w' ⟨rfl,hb1⟩)
     go_ret
     exact ⟨ag hv.out.symm,hbr.out.trans (hb1.mono hbr.out.size)⟩
    |false=>
     rw [hp] at hcall
     have hv:=aa (bt hlt hc.out hp)
     clear hp
     go_wp2_with (go_at_fn fid;refine hcall.mono ?_;rintro e w' ⟨rfl,hb1⟩)
     go_roundw
     case rel=>exact ⟨k+1,by omega,by go_num,hv,aa (hbr.out.trans (hb1.mono hbr.out.size))⟩
     case measure=>simp [intOf];omega
  ·have hv:=aa (dt (bO hk hlt hc.out))
   go_wp2
   go_ret
   exact ⟨ag hv.out.symm,hbr.out⟩
theorem mt {α:Type} {R:CR α} (sR:dM R) {B:Nat} (fid:Nat) (lb:Array Value) (eg:∀ args w,(callFunc fid args).run prog w=.ok (.enter fid args) w) (p:α→Bool) (A:Option Addr) (cap:Nat) (xs:List α) (w:World) (hB:B≤w.heap.size) (h:Sl 3 R w B A xs) (hf:ew cB 3 B R fid lb p xs w):
  Calls prog 218 #[.slice A xs.length cap,.func (.func fid) #[] lb] w fun e w'=>e=.returned (.int .i64 (fC p xs))∧Below w.heap.size w w':=by
 have hl:=h.len
 replace hf:=aa hf
 go_enter func218,ntmps218
 go_wp2
 go_loopw [5,8] (fun _ i wr=>∃ k:Nat,k≤xs.length∧i=.int .i64 k∧Hid ((xs.take k).any p=false)∧Hid (Below w.heap.size w wr)) (fun _ i _=>xs.length-(intOf i).toNat)
 case atStart=>exact ⟨0,Bo _,rfl,aa (by simp),aa (Bi _ _)⟩
 case round=>
  obtain ⟨k,hk,rfl,hc,hbr⟩:=hrel
  have hcw:=ab hbr.out
  by_cases hlt:k<xs.length
  ·obtain ⟨b,o,ecs,rfl,hb0,hel,hcell,hr⟩:=h.2 k _ (Bk hlt)
   have hb:b<w.heap.size:=by omega
   match ecs,hel with
   | [a0,a1,a2],_=>
    have x0:w.cell? ⟨b,o+k*3,none⟩=some a0:=by simpa using hcell 0 a0 rfl
    have x1:w.cell? ⟨b,o+k*3+1,none⟩=some a1:=by simpa using hcell 1 a1 rfl
    have x2:w.cell? ⟨b,o+k*3+2,none⟩=some a2:=by simpa using hcell 2 a2 rfl
    have hltz:(k:Int)<(xs.length:Int):=by omega
    have hcall:Calls prog fid (#[.agg #[a0,a1,a2]]++lb) wr _:=hf.out k xs[k] [a0,a1,a2] wr (Bk hlt) hbr.out (sR.keep hr fun q hq=>hbr.out.cell (Bg hq hB)) rfl
    clear h hcell hr
    cases hp:p xs[k] with
    |true=>
     rw [hp] at hcall
     have hv:=aa (dr hlt hc.out hp)
     clear hp
     go_wp2_with (go_at_fn fid;refine hcall.mono ?_;rintro e w' ⟨rfl,hb1⟩)
     go_ret
     exact ⟨ag hv.out.symm,hbr.out.trans (hb1.mono hbr.out.size)⟩
    |false=>
     rw [hp] at hcall
     have hv:=aa (bt hlt hc.out hp)
     clear hp
     go_wp2_with (go_at_fn fid;refine hcall.mono ?_;rintro e w' ⟨rfl,hb1⟩)
     go_roundw
     case rel=>exact ⟨k+1,by omega,by go_num,hv,aa (hbr.out.trans (hb1.mono hbr.out.size))⟩
     case measure=>simp [intOf];omega
  ·have hv:=aa (dt (bO hk hlt hc.out))
   go_wp2
   go_ret
   exact ⟨ag hv.out.symm,hbr.out⟩
theorem nC {α:Type} {R:CR α} (sR:dM R) {B:Nat} (fid:Nat) (lb:Array Value) (eg:∀ args w,(callFunc fid args).run prog w=.ok (.enter fid args) w) (p:α→Bool) (A:Option Addr) (cap:Nat) (xs:List α) (w:World) (hB:B≤w.heap.size) (h:Sl 7 R w B A xs) (hf:ew cB 7 B R fid lb p xs w):
  Calls prog 219 #[.slice A xs.length cap,.func (.func fid) #[] lb] w fun e w'=>e=.returned (.int .i64 (fC p xs))∧Below w.heap.size w w':=by
 have hl:=h.len
 replace hf:=aa hf
 go_enter func219,ntmps219
 go_wp2
 go_loopw [5,8] (fun _ i wr=>∃ k:Nat,k≤xs.length∧i=.int .i64 k∧Hid ((xs.take k).any p=false)∧Hid (Below w.heap.size w wr)) (fun _ i _=>xs.length-(intOf i).toNat)
 case atStart=>exact ⟨0,Bo _,rfl,aa (by simp),aa (Bi _ _)⟩
 case round=>
  obtain ⟨k,hk,rfl,hc,hbr⟩:=hrel
  have hcw:=ab hbr.out
  by_cases hlt:k<xs.length
  ·obtain ⟨b,o,ecs,rfl,hb0,hel,hcell,hr⟩:=h.2 k _ (Bk hlt)
   have hb:b<w.heap.size:=by omega
   match ecs,hel with
   | [a0,a1,a2,a3,a4,a5,a6],_=>
    have x0:w.cell? ⟨b,o+k*7,none⟩=some a0:=by simpa using hcell 0 a0 rfl
    have x1:w.cell? ⟨b,o+k*7+1,none⟩=some a1:=by simpa using hcell 1 a1 rfl
    have x2:w.cell? ⟨b,o+k*7+2,none⟩=some a2:=by simpa using hcell 2 a2 rfl
    have x3:w.cell? ⟨b,o+k*7+3,none⟩=some a3:=by simpa using hcell 3 a3 rfl
    have x4:w.cell? ⟨b,o+k*7+4,none⟩=some a4:=by simpa using hcell 4 a4 rfl
    have x5:w.cell? ⟨b,o+k*7+5,none⟩=some a5:=by simpa using hcell 5 a5 rfl
    have x6:w.cell? ⟨b,o+k*7+6,none⟩=some a6:=by simpa using hcell 6 a6 rfl
    have hltz:(k:Int)<(xs.length:Int):=by omega
    have hcall:Calls prog fid (#[.agg #[a0,a1,a2,a3,a4,a5,a6]]++lb) wr _:=hf.out k xs[k] [a0,a1,a2,a3,a4,a5,a6] wr (Bk hlt) hbr.out (sR.keep hr fun q hq=>hbr.out.cell (Bg hq hB)) rfl
    clear h hcell hr
    cases hp:p xs[k] with
    |true=>
     rw [hp] at hcall
     have hv:=aa (dr hlt hc.out hp)
     clear hp
     go_wp2_with (go_at_fn fid;refine hcall.mono ?_;rintro e w' ⟨rfl,hb1⟩)
     go_ret
     exact ⟨ag hv.out.symm,hbr.out.trans (hb1.mono hbr.out.size)⟩
    |false=>
     rw [hp] at hcall
     have hv:=aa (bt hlt hc.out hp)
     clear hp
     go_wp2_with (go_at_fn fid;refine hcall.mono ?_;rintro e w' ⟨rfl,hb1⟩)
     go_roundw
     case rel=>exact ⟨k+1,by omega,by go_num,hv,aa (hbr.out.trans (hb1.mono hbr.out.size))⟩
     case measure=>simp [intOf];omega
  ·have hv:=aa (dt (bO hk hlt hc.out))
   go_wp2
   go_ret
   exact ⟨ag hv.out.symm,hbr.out⟩
theorem nD {α:Type} {R:CR α} (sR:dM R) {B:Nat} (fid:Nat) (lb:Array Value) (eg:∀ args w,(callFunc fid args).run prog w=.ok (.enter fid args) w) (p:α→Bool) (A:Option Addr) (cap:Nat) (xs:List α) (w:World) (hB:B≤w.heap.size) (h:Sl 10 R w B A xs) (hf:ew cB 10 B R fid lb p xs w):
  Calls prog 220 #[.slice A xs.length cap,.func (.func fid) #[] lb] w fun e w'=>e=.returned (.int .i64 (fC p xs))∧Below w.heap.size w w':=by
 have hl:=h.len
 replace hf:=aa hf
 go_enter func220,ntmps220
 go_wp2
 go_loopw [5,8] (fun _ i wr=>∃ k:Nat,k≤xs.length∧i=.int .i64 k∧Hid ((xs.take k).any p=false)∧Hid (Below w.heap.size w wr)) (fun _ i _=>xs.length-(intOf i).toNat)
 case atStart=>exact ⟨0,Bo _,rfl,aa (by simp),aa (Bi _ _)⟩
 case round=>
  obtain ⟨k,hk,rfl,hc,hbr⟩:=hrel
  have hcw:=ab hbr.out
  by_cases hlt:k<xs.length
  ·obtain ⟨b,o,ecs,rfl,hb0,hel,hcell,hr⟩:=h.2 k _ (Bk hlt)
   have hb:b<w.heap.size:=by omega
   match ecs,hel with
   | [a0,a1,a2,a3,a4,a5,a6,a7,a8,a9],_=>
    have x0:w.cell? ⟨b,o+k*10,none⟩=some a0:=by simpa using hcell 0 a0 rfl
    have x1:w.cell? ⟨b,o+k*10+1,none⟩=some a1:=by simpa using hcell 1 a1 rfl
    have x2:w.cell? ⟨b,o+k*10+2,none⟩=some a2:=by simpa using hcell 2 a2 rfl
    have x3:w.cell? ⟨b,o+k*10+3,none⟩=some a3:=by simpa using hcell 3 a3 rfl
    have x4:w.cell? ⟨b,o+k*10+4,none⟩=some a4:=by simpa using hcell 4 a4 rfl
    have x5:w.cell? ⟨b,o+k*10+5,none⟩=some a5:=by simpa using hcell 5 a5 rfl
    have x6:w.cell? ⟨b,o+k*10+6,none⟩=some a6:=by simpa using hcell 6 a6 rfl
    have x7:w.cell? ⟨b,o+k*10+7,none⟩=some a7:=by simpa using hcell 7 a7 rfl
    have x8:w.cell? ⟨b,o+k*10+8,none⟩=some a8:=by simpa using hcell 8 a8 rfl
    have x9:w.cell? ⟨b,o+k*10+9,none⟩=some a9:=by simpa using hcell 9 a9 rfl
    have hltz:(k:Int)<(xs.length:Int):=by omega
    have hcall:Calls prog fid (#[.agg #[a0,a1,a2,a3,a4,a5,a6,a7,a8,a9]]++lb) wr _:=hf.out k xs[k] [a0,a1,a2,a3,a4,a5,a6,a7,a8,a9] wr (Bk hlt) hbr.out (sR.keep hr fun q hq=>hbr.out.cell (Bg hq hB)) rfl
    clear h hcell hr
    cases hp:p xs[k] with
    |true=>
     rw [hp] at hcall
     have hv:=aa (dr hlt hc.out hp)
     clear hp
     go_wp2_with (go_at_fn fid;refine hcall.mono ?_;rintro e w' ⟨rfl,hb1⟩)
     go_ret
     exact ⟨ag hv.out.symm,hbr.out.trans (hb1.mono hbr.out.size)⟩
    |false=>
     rw [hp] at hcall
     have hv:=aa (bt hlt hc.out hp)
     clear hp
     go_wp2_with (go_at_fn fid;refine hcall.mono ?_;rintro e w' ⟨rfl,hb1⟩)
     go_roundw
     case rel=>exact ⟨k+1,by omega,by go_num,hv,aa (hbr.out.trans (hb1.mono hbr.out.size))⟩
     case measure=>simp [intOf];omega
  ·have hv:=aa (dt (bO hk hlt hc.out))
   go_wp2
   go_ret
   exact ⟨ag hv.out.symm,hbr.out⟩
theorem nE {α:Type} {R:CR α} (sR:dM R) {B:Nat} (fid:Nat) (lb:Array Value) (eg:∀ args w,(callFunc fid args).run prog w=.ok (.enter fid args) w) (p:α→Bool) (A:Option Addr) (cap:Nat) (xs:List α) (w:World) (hB:B≤w.heap.size) (h:Sl 3 R w B A xs) (hf:ew cB 3 B R fid lb p xs w):
  Calls prog 221 #[.slice A xs.length cap,.func (.func fid) #[] lb] w fun e w'=>e=.returned (.int .i64 (fC p xs))∧Below w.heap.size w w':=by
 have hl:=h.len
 replace hf:=aa hf
 go_enter func221,ntmps221
 go_wp2
 go_loopw [5,8] (fun _ i wr=>∃ k:Nat,k≤xs.length∧i=.int .i64 k∧Hid ((xs.take k).any p=false)∧Hid (Below w.heap.size w wr)) (fun _ i _=>xs.length-(intOf i).toNat)
 case atStart=>exact ⟨0,Bo _,rfl,aa (by simp),aa (Bi _ _)⟩
 case round=>
  obtain ⟨k,hk,rfl,hc,hbr⟩:=hrel
  have hcw:=ab hbr.out
  by_cases hlt:k<xs.length
  ·obtain ⟨b,o,ecs,rfl,hb0,hel,hcell,hr⟩:=h.2 k _ (Bk hlt)
   have hb:b<w.heap.size:=by omega
   match ecs,hel with
   | [a0,a1,a2],_=>
    have x0:w.cell? ⟨b,o+k*3,none⟩=some a0:=by simpa using hcell 0 a0 rfl
    have x1:w.cell? ⟨b,o+k*3+1,none⟩=some a1:=by simpa using hcell 1 a1 rfl
    have x2:w.cell? ⟨b,o+k*3+2,none⟩=some a2:=by simpa using hcell 2 a2 rfl
    have hltz:(k:Int)<(xs.length:Int):=by omega
    have hcall:Calls prog fid (#[.agg #[a0,a1,a2]]++lb) wr _:=hf.out k xs[k] [a0,a1,a2] wr (Bk hlt) hbr.out (sR.keep hr fun q hq=>hbr.out.cell (Bg hq hB)) rfl
    clear h hcell hr
    cases hp:p xs[k] with
    |true=>
     rw [hp] at hcall
     have hv:=aa (dr hlt hc.out hp)
     clear hp
     go_wp2_with (go_at_fn fid;refine hcall.mono ?_;rintro e w' ⟨rfl,hb1⟩)
     go_ret
     exact ⟨ag hv.out.symm,hbr.out.trans (hb1.mono hbr.out.size)⟩
    |false=>
     rw [hp] at hcall
     have hv:=aa (bt hlt hc.out hp)
     clear hp
     go_wp2_with (go_at_fn fid;refine hcall.mono ?_;rintro e w' ⟨rfl,hb1⟩)
     go_roundw
     case rel=>exact ⟨k+1,by omega,by go_num,hv,aa (hbr.out.trans (hb1.mono hbr.out.size))⟩
     case measure=>simp [intOf];omega
  ·have hv:=aa (dt (bO hk hlt hc.out))
   go_wp2
   go_ret
   exact ⟨ag hv.out.symm,hbr.out⟩
theorem mv {α:Type} {R:CR α} (sR:dM R) {B:Nat} (fid:Nat) (lb:Array Value) (eg:∀ args w,(callFunc fid args).run prog w=.ok (.enter fid args) w) (p:α→Bool) (A:Option Addr) (cap:Nat) (xs:List α) (w:World) (hB:B≤w.heap.size) (h:Sl 14 R w B A xs) (hf:ew cB 14 B R fid lb p xs w):
  Calls prog 222 #[.slice A xs.length cap,.func (.func fid) #[] lb] w fun e w'=>e=.returned (.int .i64 (fC p xs))∧Below w.heap.size w w':=by
 have hl:=h.len
 replace hf:=aa hf
 go_enter func222,ntmps222
 go_wp2
 go_loopw [5,8] (fun _ i wr=>∃ k:Nat,k≤xs.length∧i=.int .i64 k∧Hid ((xs.take k).any p=false)∧Hid (Below w.heap.size w wr)) (fun _ i _=>xs.length-(intOf i).toNat)
 case atStart=>exact ⟨0,Bo _,rfl,aa (by simp),aa (Bi _ _)⟩
 case round=>
  obtain ⟨k,hk,rfl,hc,hbr⟩:=hrel
  have hcw:=ab hbr.out
  by_cases hlt:k<xs.length
  ·obtain ⟨b,o,ecs,rfl,hb0,hel,hcell,hr⟩:=h.2 k _ (Bk hlt)
   have hb:b<w.heap.size:=by omega
   match ecs,hel with
   | [a0,a1,a2,a3,a4,a5,a6,a7,a8,a9,a10,a11,a12,a13],_=>
    have x0:w.cell? ⟨b,o+k*14,none⟩=some a0:=by simpa using hcell 0 a0 rfl
    have x1:w.cell? ⟨b,o+k*14+1,none⟩=some a1:=by simpa using hcell 1 a1 rfl
    have x2:w.cell? ⟨b,o+k*14+2,none⟩=some a2:=by simpa using hcell 2 a2 rfl
    have x3:w.cell? ⟨b,o+k*14+3,none⟩=some a3:=by simpa using hcell 3 a3 rfl
    have x4:w.cell? ⟨b,o+k*14+4,none⟩=some a4:=by simpa using hcell 4 a4 rfl
    have x5:w.cell? ⟨b,o+k*14+5,none⟩=some a5:=by simpa using hcell 5 a5 rfl
    have x6:w.cell? ⟨b,o+k*14+6,none⟩=some a6:=by simpa using hcell 6 a6 rfl
    have x7:w.cell? ⟨b,o+k*14+7,none⟩=some a7:=by simpa using hcell 7 a7 rfl
    have x8:w.cell? ⟨b,o+k*14+8,none⟩=some a8:=by simpa using hcell 8 a8 rfl
    have x9:w.cell? ⟨b,o+k*14+9,none⟩=some a9:=by simpa using hcell 9 a9 rfl
    have x10:w.cell? ⟨b,o+k*14+10,none⟩=some a10:=by simpa using hcell 10 a10 rfl
    have x11:w.cell? ⟨b,o+k*14+11,none⟩=some a11:=by simpa using hcell 11 a11 rfl
    have x12:w.cell? ⟨b,o+k*14+12,none⟩=some a12:=by simpa using hcell 12 a12 rfl
    have x13:w.cell? ⟨b,o+k*14+13,none⟩=some a13:=by simpa using hcell 13 a13 rfl
    have hltz:(k:Int)<(xs.length:Int):=by omega
    have hcall:Calls prog fid (#[.agg #[a0,a1,a2,a3,a4,a5,a6,a7,a8,a9,a10,a11,a12,a13]]++lb) wr _:=hf.out k xs[k] [a0,a1,a2,a3,a4,a5,a6,a7,a8,a9,a10,a11,a12,a13] wr (Bk hlt) hbr.out (sR.keep hr fun q hq=>hbr.out.cell (Bg hq hB)) rfl
    clear h hcell hr
    cases hp:p xs[k] with
    |true=>
     rw [hp] at hcall
     have hv:=aa (dr hlt hc.out hp)
     clear hp
     go_wp2_with (go_at_fn fid;refine hcall.mono ?_;rintro e w' ⟨rfl,hb1⟩)
     go_ret
     exact ⟨ag hv.out.symm,hbr.out.trans (hb1.mono hbr.out.size)⟩
    |false=>
     rw [hp] at hcall
     have hv:=aa (bt hlt hc.out hp)
     clear hp
     go_wp2_with (go_at_fn fid;refine hcall.mono ?_;rintro e w' ⟨rfl,hb1⟩)
     go_roundw
     case rel=>exact ⟨k+1,by omega,by go_num,hv,aa (hbr.out.trans (hb1.mono hbr.out.size))⟩
     case measure=>simp [intOf];omega
  ·have hv:=aa (dt (bO hk hlt hc.out))
   go_wp2
   go_ret
   exact ⟨ag hv.out.symm,hbr.out⟩
theorem iA {α:Type} {R:CR α} (sR:dM R) {B:Nat} (fid:Nat) (lb:Array Value) (eg:∀ args w,(callFunc fid args).run prog w=.ok (.enter fid args) w) (p:α→Bool) (A:Option Addr) (cap:Nat) (xs:List α) (w:World) (hB:B≤w.heap.size) (h:Sl 2 R w B A xs) (hf:ew cB 2 B R fid lb p xs w):
  Calls prog 130 #[.slice A xs.length cap,.func (.func fid) #[] lb] w fun e w'=>e=.returned (.bool (xs.any p))∧Below w.heap.size w w':=by
 have hv:=aa (bP p xs)
 replace hf:=aa hf
 go_enter func130,ntmps130
 go_wp2_with (go_at_call 189;refine (fE sR fid lb eg p A cap xs _ hB h hf.out).mono ?_;rintro e w' ⟨rfl,hb⟩)
 go_ret
 exact ⟨ah hv.out,hb⟩
theorem iM {α:Type} {R:CR α} (sR:dM R) {B:Nat} (fid:Nat) (lb:Array Value) (eg:∀ args w,(callFunc fid args).run prog w=.ok (.enter fid args) w) (p:α→Bool) (A:Option Addr) (cap:Nat) (xs:List α) (w:World) (hB:B≤w.heap.size) (h:Sl 2 R w B A xs) (hf:ew cB 2 B R fid lb p xs w):
  Calls prog 128 #[.slice A xs.length cap,.func (.func fid) #[] lb] w fun e w'=>e=.returned (.bool (xs.any p))∧Below w.heap.size w w':=by
 have hv:=aa (bP p xs)
 replace hf:=aa hf
 go_enter func128,ntmps128
 go_wp2_with (go_at_call 188;refine (gx sR fid lb eg p A cap xs _ hB h hf.out).mono ?_;rintro e w' ⟨rfl,hb⟩)
 go_ret
 exact ⟨ah hv.out,hb⟩
theorem iN {α:Type} {R:CR α} (sR:dM R) {B:Nat} (fid:Nat) (lb:Array Value) (eg:∀ args w,(callFunc fid args).run prog w=.ok (.enter fid args) w) (p:α→Bool) (A:Option Addr) (cap:Nat) (xs:List α) (w:World) (hB:B≤w.heap.size) (h:Sl 5 R w B A xs) (hf:ew cB 5 B R fid lb p xs w):
  Calls prog 132 #[.slice A xs.length cap,.func (.func fid) #[] lb] w fun e w'=>e=.returned (.bool (xs.any p))∧Below w.heap.size w w':=by
 have hv:=aa (bP p xs)
 replace hf:=aa hf
 go_enter func132,ntmps132
 go_wp2_with (go_at_call 190;refine (gy sR fid lb eg p A cap xs _ hB h hf.out).mono ?_;rintro e w' ⟨rfl,hb⟩)
 go_ret
 exact ⟨ah hv.out,hb⟩
theorem iB {α:Type} {R:CR α} (sR:dM R) {B:Nat} (fid:Nat) (lb:Array Value) (eg:∀ args w,(callFunc fid args).run prog w=.ok (.enter fid args) w) (p:α→Bool) (A:Option Addr) (cap:Nat) (xs:List α) (w:World) (hB:B≤w.heap.size) (h:Sl 3 R w B A xs) (hf:ew cB 3 B R fid lb p xs w):
  Calls prog 139 #[.slice A xs.length cap,.func (.func fid) #[] lb] w fun e w'=>e=.returned (.bool (xs.any p))∧Below w.heap.size w w':=by
 have hv:=aa (bP p xs)
 replace hf:=aa hf
 go_enter func139,ntmps139
 go_wp2_with (go_at_call 162;refine (fF sR fid lb eg p A cap xs _ hB h hf.out).mono ?_;rintro e w' ⟨rfl,hb⟩)
 go_ret
 exact ⟨ah hv.out,hb⟩
theorem iO {α:Type} {R:CR α} (sR:dM R) {B:Nat} (fid:Nat) (lb:Array Value) (eg:∀ args w,(callFunc fid args).run prog w=.ok (.enter fid args) w) (p:α→Bool) (A:Option Addr) (cap:Nat) (xs:List α) (w:World) (hB:B≤w.heap.size) (h:Sl 5 R w B A xs) (hf:ew cB 5 B R fid lb p xs w):
  Calls prog 141 #[.slice A xs.length cap,.func (.func fid) #[] lb] w fun e w'=>e=.returned (.bool (xs.any p))∧Below w.heap.size w w':=by
 have hv:=aa (bP p xs)
 replace hf:=aa hf
 go_enter func141,ntmps141
 go_wp2_with (go_at_call 195;refine (gz sR fid lb eg p A cap xs _ hB h hf.out).mono ?_;rintro e w' ⟨rfl,hb⟩)
 go_ret
 exact ⟨ah hv.out,hb⟩
theorem iC {α:Type} {R:CR α} (sR:dM R) {B:Nat} (fid:Nat) (lb:Array Value) (eg:∀ args w,(callFunc fid args).run prog w=.ok (.enter fid args) w) (p:α→Bool) (A:Option Addr) (cap:Nat) (xs:List α) (w:World) (hB:B≤w.heap.size) (h:Sl 1 R w B A xs) (hf:ew yF 1 B R fid lb p xs w):
  Calls prog 149 #[.slice A xs.length cap,.func (.func fid) #[] lb] w fun e w'=>e=.returned (.bool (xs.any p))∧Below w.heap.size w w':=by
 have hv:=aa (bP p xs)
 replace hf:=aa hf
 go_enter func149,ntmps149
 go_wp2_with (go_at_call 203;refine (j8 sR fid lb eg p A cap xs _ hB h hf.out).mono ?_;rintro e w' ⟨rfl,hb⟩)
 go_ret
 exact ⟨ah hv.out,hb⟩
theorem jk {α:Type} {R:CR α} (sR:dM R) {B:Nat} (fid:Nat) (lb:Array Value) (eg:∀ args w,(callFunc fid args).run prog w=.ok (.enter fid args) w) (p:α→Bool) (A:Option Addr) (cap:Nat) (xs:List α) (w:World) (hB:B≤w.heap.size) (h:Sl 9 R w B A xs) (hf:ew cB 9 B R fid lb p xs w):
  Calls prog 122 #[.slice A xs.length cap,.func (.func fid) #[] lb] w fun e w'=>e=.returned (.bool (xs.any p))∧Below w.heap.size w w':=by
 have hv:=aa (bP p xs)
 replace hf:=aa hf
 go_enter func122,ntmps122
 go_wp2_with (go_at_call 185;refine (ms sR fid lb eg p A cap xs _ hB h hf.out).mono ?_;rintro e w' ⟨rfl,hb⟩)
 go_ret
 exact ⟨ah hv.out,hb⟩
theorem jl {α:Type} {R:CR α} (sR:dM R) {B:Nat} (fid:Nat) (lb:Array Value) (eg:∀ args w,(callFunc fid args).run prog w=.ok (.enter fid args) w) (p:α→Bool) (A:Option Addr) (cap:Nat) (xs:List α) (w:World) (hB:B≤w.heap.size) (h:Sl 3 R w B A xs) (hf:ew cB 3 B R fid lb p xs w):
  Calls prog 191 #[.slice A xs.length cap,.func (.func fid) #[] lb] w fun e w'=>e=.returned (.bool (xs.any p))∧Below w.heap.size w w':=by
 have hv:=aa (bP p xs)
 replace hf:=aa hf
 go_enter func191,ntmps191
 go_wp2_with (go_at_call 218;refine (mt sR fid lb eg p A cap xs _ hB h hf.out).mono ?_;rintro e w' ⟨rfl,hb⟩)
 go_ret
 exact ⟨ah hv.out,hb⟩
theorem j9 {α:Type} {R:CR α} (sR:dM R) {B:Nat} (fid:Nat) (lb:Array Value) (eg:∀ args w,(callFunc fid args).run prog w=.ok (.enter fid args) w) (p:α→Bool) (A:Option Addr) (cap:Nat) (xs:List α) (w:World) (hB:B≤w.heap.size) (h:Sl 7 R w B A xs) (hf:ew cB 7 B R fid lb p xs w):
  Calls prog 193 #[.slice A xs.length cap,.func (.func fid) #[] lb] w fun e w'=>e=.returned (.bool (xs.any p))∧Below w.heap.size w w':=by
 have hv:=aa (bP p xs)
 replace hf:=aa hf
 go_enter func193,ntmps193
 go_wp2_with (go_at_call 219;refine (nC sR fid lb eg p A cap xs _ hB h hf.out).mono ?_;rintro e w' ⟨rfl,hb⟩)
 go_ret
 exact ⟨ah hv.out,hb⟩
theorem ka {α:Type} {R:CR α} (sR:dM R) {B:Nat} (fid:Nat) (lb:Array Value) (eg:∀ args w,(callFunc fid args).run prog w=.ok (.enter fid args) w) (p:α→Bool) (A:Option Addr) (cap:Nat) (xs:List α) (w:World) (hB:B≤w.heap.size) (h:Sl 10 R w B A xs) (hf:ew cB 10 B R fid lb p xs w):
  Calls prog 196 #[.slice A xs.length cap,.func (.func fid) #[] lb] w fun e w'=>e=.returned (.bool (xs.any p))∧Below w.heap.size w w':=by
 have hv:=aa (bP p xs)
 replace hf:=aa hf
 go_enter func196,ntmps196
 go_wp2_with (go_at_call 220;refine (nD sR fid lb eg p A cap xs _ hB h hf.out).mono ?_;rintro e w' ⟨rfl,hb⟩)
 go_ret
 exact ⟨ah hv.out,hb⟩
theorem kd {α:Type} {R:CR α} (sR:dM R) {B:Nat} (fid:Nat) (lb:Array Value) (eg:∀ args w,(callFunc fid args).run prog w=.ok (.enter fid args) w) (p:α→Bool) (A:Option Addr) (cap:Nat) (xs:List α) (w:World) (hB:B≤w.heap.size) (h:Sl 3 R w B A xs) (hf:ew cB 3 B R fid lb p xs w):
  Calls prog 198 #[.slice A xs.length cap,.func (.func fid) #[] lb] w fun e w'=>e=.returned (.bool (xs.any p))∧Below w.heap.size w w':=by
 have hv:=aa (bP p xs)
 replace hf:=aa hf
 go_enter func198,ntmps198
 go_wp2_with (go_at_call 221;refine (nE sR fid lb eg p A cap xs _ hB h hf.out).mono ?_;rintro e w' ⟨rfl,hb⟩)
 go_ret
 exact ⟨ah hv.out,hb⟩
theorem jm {α:Type} {R:CR α} (sR:dM R) {B:Nat} (fid:Nat) (lb:Array Value) (eg:∀ args w,(callFunc fid args).run prog w=.ok (.enter fid args) w) (p:α→Bool) (A:Option Addr) (cap:Nat) (xs:List α) (w:World) (hB:B≤w.heap.size) (h:Sl 14 R w B A xs) (hf:ew cB 14 B R fid lb p xs w):
  Calls prog 200 #[.slice A xs.length cap,.func (.func fid) #[] lb] w fun e w'=>e=.returned (.bool (xs.any p))∧Below w.heap.size w w':=by
 have hv:=aa (bP p xs)
 replace hf:=aa hf
 go_enter func200,ntmps200
 go_wp2_with (go_at_call 222;refine (mv sR fid lb eg p A cap xs _ hB h hf.out).mono ?_;rintro e w' ⟨rfl,hb⟩)
 go_ret
 exact ⟨ah hv.out,hb⟩
end Go.Proofs.YtbbdhknagofghaaGreat

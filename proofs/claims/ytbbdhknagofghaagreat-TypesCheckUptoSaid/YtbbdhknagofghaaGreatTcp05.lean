import Derived.Test.YtbbdhknagofghaaGreatTcp04
import Derived.Laws.EntriesVeiled
import Derived.Test.YtbbdhknagofghaaGreatShelf
set_option linter.all false
set_option maxHeartbeats 1000000
open Go.Proofs.Tryz
namespace Go.Proofs.YtbbdhknagofghaaGreat
open _root_.Nat renaming lt_of_lt_of_le→Bg, le_trans→Bj, le_refl→Bm, zero_le→Bo
open _root_.Go.RowKit.Below renaming refl→Bi
open _root_.List renaming getElem_mem→Bv, all_eq_not_any_not→BX
open _root_.Bool renaming eq_false_iff→BD
open Go.RowKit
theorem jn:∀ args w,(callFunc 131 args).run prog w=.ok (.enter 131 args) w:=enters_of func131 (by kernel_rfl) rfl
theorem sF {α:Type} {R:CR α} (sR:dM R) {B:Nat} (fid:Nat) (lb:Array Value) (eg:∀ args w,(callFunc fid args).run prog w=.ok (.enter fid args) w) (p:α→Bool) (A:Option Addr) (cap:Nat) (xs:List α) (w:World) (hB:B≤w.heap.size) (h:Sl 2 R w B A xs) (hf:ew cB 2 B R fid lb p xs w):
  Calls prog 61 #[.slice A xs.length cap,.func (.func fid) #[] lb] w fun e w'=>e=.returned (.bool (xs.all p))∧Below w.heap.size w w':=by
 obtain ⟨wb,hwb,hsz,hw,hcb,-⟩:=al w #[.func (.func fid) #[] lb] 121
 have hg:ew cB 2 B R 131 #[.pointer (some ⟨w.heap.size,0,none⟩)] (fun x=> !p x) xs wb:=fun i x cs W hx hb hr hel=>by
  have hbw:=hw.trans (hb.mono (by omega))
  match cs,hel with
  | [a0,a1],_=>
   obtain ⟨wc,hwc,hzc,hc,hcc,-⟩:=al W #[a0,a1] 66
   have hBW:B≤W.heap.size:=Bj hB hbw.size
   have hcall:Calls prog fid (#[.agg #[a0,a1]]++lb) wc _:=hf i x [a0,a1] wc hx (hbw.trans (hc.mono hbw.size)) (sR.keep hr fun q hq=>hc.cell (Bg hq hBW)) rfl
   have hbox:wc.cell? ⟨w.heap.size,0,none⟩=some (.func (.func fid) #[] lb):=(bx hc w.heap.size 0 (by have:=hb.size;omega)).trans ((bx hb w.heap.size 0 (by omega)).trans (hcb 0))
   have y0:wc.cell? ⟨W.heap.size,0,none⟩=some a0:=hcc 0
   have y1:wc.cell? ⟨W.heap.size,1,none⟩=some a1:=hcc 1
   replace hc:=aa hc
   clear hf hr hwb hcc
   show Calls _ _ (#[.agg #[a0,a1],.pointer (some ⟨w.heap.size,0,none⟩)]) _ _
   go_enter func131,ntmps131
   go_wp2_with (go_at_fn fid;refine hcall.mono ?_;rintro e w' ⟨rfl,hb1⟩)
   go_ret
   exact ⟨rfl,hc.out.trans (hb1.mono (by omega))⟩
 have hv:=aa (show (!xs.any fun x=> !p x)=xs.all p from by rw [BX])
 have hS:=aa (h.below sR (hw.mono hB))
 replace hg:=aa hg
 replace hf:=aa hf
 clear hcb
 go_enter func61,ntmps61
 go_wp2_with (go_at_call 130;refine (iA sR _ _ jn _ _ _ _ _ (by omega) hS.out hg.out).mono ?_;rintro e w' ⟨rfl,hb⟩)
 go_ret
 exact ⟨ah hv.out,hw.trans (hb.mono (by omega))⟩
theorem kf:∀ args w,(callFunc 129 args).run prog w=.ok (.enter 129 args) w:=enters_of func129 (by kernel_rfl) rfl
theorem uJ {α:Type} {R:CR α} (sR:dM R) {B:Nat} (fid:Nat) (lb:Array Value) (eg:∀ args w,(callFunc fid args).run prog w=.ok (.enter fid args) w) (p:α→Bool) (A:Option Addr) (cap:Nat) (xs:List α) (w:World) (hB:B≤w.heap.size) (h:Sl 2 R w B A xs) (hf:ew cB 2 B R fid lb p xs w):
  Calls prog 59 #[.slice A xs.length cap,.func (.func fid) #[] lb] w fun e w'=>e=.returned (.bool (xs.all p))∧Below w.heap.size w w':=by
 obtain ⟨wb,hwb,hsz,hw,hcb,-⟩:=al w #[.func (.func fid) #[] lb] 120
 have hg:ew cB 2 B R 129 #[.pointer (some ⟨w.heap.size,0,none⟩)] (fun x=> !p x) xs wb:=fun i x cs W hx hb hr hel=>by
  have hbw:=hw.trans (hb.mono (by omega))
  match cs,hel with
  | [a0,a1],_=>
   obtain ⟨wc,hwc,hzc,hc,hcc,-⟩:=al W #[a0,a1] 84
   have hBW:B≤W.heap.size:=Bj hB hbw.size
   have hcall:Calls prog fid (#[.agg #[a0,a1]]++lb) wc _:=hf i x [a0,a1] wc hx (hbw.trans (hc.mono hbw.size)) (sR.keep hr fun q hq=>hc.cell (Bg hq hBW)) rfl
   have hbox:wc.cell? ⟨w.heap.size,0,none⟩=some (.func (.func fid) #[] lb):=(bx hc w.heap.size 0 (by have:=hb.size;omega)).trans ((bx hb w.heap.size 0 (by omega)).trans (hcb 0))
   have y0:wc.cell? ⟨W.heap.size,0,none⟩=some a0:=hcc 0
   have y1:wc.cell? ⟨W.heap.size,1,none⟩=some a1:=hcc 1
   replace hc:=aa hc
   clear hf hr hwb hcc
   show Calls _ _ (#[.agg #[a0,a1],.pointer (some ⟨w.heap.size,0,none⟩)]) _ _
   go_enter func129,ntmps129
   go_wp2_with (go_at_fn fid;refine hcall.mono ?_;rintro e w' ⟨rfl,hb1⟩)
   go_ret
   exact ⟨rfl,hc.out.trans (hb1.mono (by omega))⟩
 have hv:=aa (show (!xs.any fun x=> !p x)=xs.all p from by rw [BX])
 have hS:=aa (h.below sR (hw.mono hB))
 replace hg:=aa hg
 replace hf:=aa hf
 clear hcb
 go_enter func59,ntmps59
 go_wp2_with (go_at_call 128;refine (iM sR _ _ kf _ _ _ _ _ (by omega) hS.out hg.out).mono ?_;rintro e w' ⟨rfl,hb⟩)
 go_ret
 exact ⟨ah hv.out,hw.trans (hb.mono (by omega))⟩
theorem kg:∀ args w,(callFunc 133 args).run prog w=.ok (.enter 133 args) w:=enters_of func133 (by kernel_rfl) rfl
theorem uK {α:Type} {R:CR α} (sR:dM R) {B:Nat} (fid:Nat) (lb:Array Value) (eg:∀ args w,(callFunc fid args).run prog w=.ok (.enter fid args) w) (p:α→Bool) (A:Option Addr) (cap:Nat) (xs:List α) (w:World) (hB:B≤w.heap.size) (h:Sl 5 R w B A xs) (hf:ew cB 5 B R fid lb p xs w):
  Calls prog 62 #[.slice A xs.length cap,.func (.func fid) #[] lb] w fun e w'=>e=.returned (.bool (xs.all p))∧Below w.heap.size w w':=by
 obtain ⟨wb,hwb,hsz,hw,hcb,-⟩:=al w #[.func (.func fid) #[] lb] 124
 have hg:ew cB 5 B R 133 #[.pointer (some ⟨w.heap.size,0,none⟩)] (fun x=> !p x) xs wb:=fun i x cs W hx hb hr hel=>by
  have hbw:=hw.trans (hb.mono (by omega))
  match cs,hel with
  | [a0,a1,a2,a3,a4],_=>
   obtain ⟨wc,hwc,hzc,hc,hcc,-⟩:=al W #[a0,a1,a2,a3,a4] 61
   have hBW:B≤W.heap.size:=Bj hB hbw.size
   have hcall:Calls prog fid (#[.agg #[a0,a1,a2,a3,a4]]++lb) wc _:=hf i x [a0,a1,a2,a3,a4] wc hx (hbw.trans (hc.mono hbw.size)) (sR.keep hr fun q hq=>hc.cell (Bg hq hBW)) rfl
   have hbox:wc.cell? ⟨w.heap.size,0,none⟩=some (.func (.func fid) #[] lb):=(bx hc w.heap.size 0 (by have:=hb.size;omega)).trans ((bx hb w.heap.size 0 (by omega)).trans (hcb 0))
   have y0:wc.cell? ⟨W.heap.size,0,none⟩=some a0:=hcc 0
   have y1:wc.cell? ⟨W.heap.size,1,none⟩=some a1:=hcc 1
   have y2:wc.cell? ⟨W.heap.size,2,none⟩=some a2:=hcc 2
   have y3:wc.cell? ⟨W.heap.size,3,none⟩=some a3:=hcc 3
   have y4:wc.cell? ⟨W.heap.size,4,none⟩=some a4:=hcc 4
   replace hc:=aa hc
   clear hf hr hwb hcc
   show Calls _ _ (#[.agg #[a0,a1,a2,a3,a4],.pointer (some ⟨w.heap.size,0,none⟩)]) _ _
   go_enter func133,ntmps133
   go_wp2_with (go_at_fn fid;refine hcall.mono ?_;rintro e w' ⟨rfl,hb1⟩)
   go_ret
   exact ⟨rfl,hc.out.trans (hb1.mono (by omega))⟩
 have hv:=aa (show (!xs.any fun x=> !p x)=xs.all p from by rw [BX])
 have hS:=aa (h.below sR (hw.mono hB))
 replace hg:=aa hg
 replace hf:=aa hf
 clear hcb
 go_enter func62,ntmps62
 go_wp2_with (go_at_call 132;refine (iN sR _ _ kg _ _ _ _ _ (by omega) hS.out hg.out).mono ?_;rintro e w' ⟨rfl,hb⟩)
 go_ret
 exact ⟨ah hv.out,hw.trans (hb.mono (by omega))⟩
theorem jo:∀ args w,(callFunc 140 args).run prog w=.ok (.enter 140 args) w:=enters_of func140 (by kernel_rfl) rfl
theorem sG {α:Type} {R:CR α} (sR:dM R) {B:Nat} (fid:Nat) (lb:Array Value) (eg:∀ args w,(callFunc fid args).run prog w=.ok (.enter fid args) w) (p:α→Bool) (A:Option Addr) (cap:Nat) (xs:List α) (w:World) (hB:B≤w.heap.size) (h:Sl 3 R w B A xs) (hf:ew cB 3 B R fid lb p xs w):
  Calls prog 64 #[.slice A xs.length cap,.func (.func fid) #[] lb] w fun e w'=>e=.returned (.bool (xs.all p))∧Below w.heap.size w w':=by
 obtain ⟨wb,hwb,hsz,hw,hcb,-⟩:=al w #[.func (.func fid) #[] lb] 126
 have hg:ew cB 3 B R 140 #[.pointer (some ⟨w.heap.size,0,none⟩)] (fun x=> !p x) xs wb:=fun i x cs W hx hb hr hel=>by
  have hbw:=hw.trans (hb.mono (by omega))
  match cs,hel with
  | [a0,a1,a2],_=>
   obtain ⟨wc,hwc,hzc,hc,hcc,-⟩:=al W #[a0,a1,a2] 72
   have hBW:B≤W.heap.size:=Bj hB hbw.size
   have hcall:Calls prog fid (#[.agg #[a0,a1,a2]]++lb) wc _:=hf i x [a0,a1,a2] wc hx (hbw.trans (hc.mono hbw.size)) (sR.keep hr fun q hq=>hc.cell (Bg hq hBW)) rfl
   have hbox:wc.cell? ⟨w.heap.size,0,none⟩=some (.func (.func fid) #[] lb):=(bx hc w.heap.size 0 (by have:=hb.size;omega)).trans ((bx hb w.heap.size 0 (by omega)).trans (hcb 0))
   have y0:wc.cell? ⟨W.heap.size,0,none⟩=some a0:=hcc 0
   have y1:wc.cell? ⟨W.heap.size,1,none⟩=some a1:=hcc 1
   have y2:wc.cell? ⟨W.heap.size,2,none⟩=some a2:=hcc 2
   replace hc:=aa hc
   clear hf hr hwb hcc
   show Calls _ _ (#[.agg #[a0,a1,a2],.pointer (some ⟨w.heap.size,0,none⟩)]) _ _
   go_enter func140,ntmps140
   go_wp2_with (go_at_fn fid;refine hcall.mono ?_;rintro e w' ⟨rfl,hb1⟩)
   go_ret
   exact ⟨rfl,hc.out.trans (hb1.mono (by omega))⟩
 have hv:=aa (show (!xs.any fun x=> !p x)=xs.all p from by rw [BX])
 have hS:=aa (h.below sR (hw.mono hB))
 replace hg:=aa hg
 replace hf:=aa hf
 clear hcb
 go_enter func64,ntmps64
 go_wp2_with (go_at_call 139;refine (iB sR _ _ jo _ _ _ _ _ (by omega) hS.out hg.out).mono ?_;rintro e w' ⟨rfl,hb⟩)
 go_ret
 exact ⟨ah hv.out,hw.trans (hb.mono (by omega))⟩
theorem kh:∀ args w,(callFunc 142 args).run prog w=.ok (.enter 142 args) w:=enters_of func142 (by kernel_rfl) rfl
theorem uL {α:Type} {R:CR α} (sR:dM R) {B:Nat} (fid:Nat) (lb:Array Value) (eg:∀ args w,(callFunc fid args).run prog w=.ok (.enter fid args) w) (p:α→Bool) (A:Option Addr) (cap:Nat) (xs:List α) (w:World) (hB:B≤w.heap.size) (h:Sl 5 R w B A xs) (hf:ew cB 5 B R fid lb p xs w):
  Calls prog 66 #[.slice A xs.length cap,.func (.func fid) #[] lb] w fun e w'=>e=.returned (.bool (xs.all p))∧Below w.heap.size w w':=by
 obtain ⟨wb,hwb,hsz,hw,hcb,-⟩:=al w #[.func (.func fid) #[] lb] 128
 have hg:ew cB 5 B R 142 #[.pointer (some ⟨w.heap.size,0,none⟩)] (fun x=> !p x) xs wb:=fun i x cs W hx hb hr hel=>by
  have hbw:=hw.trans (hb.mono (by omega))
  match cs,hel with
  | [a0,a1,a2,a3,a4],_=>
   obtain ⟨wc,hwc,hzc,hc,hcc,-⟩:=al W #[a0,a1,a2,a3,a4] 58
   have hBW:B≤W.heap.size:=Bj hB hbw.size
   have hcall:Calls prog fid (#[.agg #[a0,a1,a2,a3,a4]]++lb) wc _:=hf i x [a0,a1,a2,a3,a4] wc hx (hbw.trans (hc.mono hbw.size)) (sR.keep hr fun q hq=>hc.cell (Bg hq hBW)) rfl
   have hbox:wc.cell? ⟨w.heap.size,0,none⟩=some (.func (.func fid) #[] lb):=(bx hc w.heap.size 0 (by have:=hb.size;omega)).trans ((bx hb w.heap.size 0 (by omega)).trans (hcb 0))
   have y0:wc.cell? ⟨W.heap.size,0,none⟩=some a0:=hcc 0
   have y1:wc.cell? ⟨W.heap.size,1,none⟩=some a1:=hcc 1
   have y2:wc.cell? ⟨W.heap.size,2,none⟩=some a2:=hcc 2
   have y3:wc.cell? ⟨W.heap.size,3,none⟩=some a3:=hcc 3
   have y4:wc.cell? ⟨W.heap.size,4,none⟩=some a4:=hcc 4
   replace hc:=aa hc
   clear hf hr hwb hcc
   show Calls _ _ (#[.agg #[a0,a1,a2,a3,a4],.pointer (some ⟨w.heap.size,0,none⟩)]) _ _
   go_enter func142,ntmps142
   go_wp2_with (go_at_fn fid;refine hcall.mono ?_;rintro e w' ⟨rfl,hb1⟩)
   go_ret
   exact ⟨rfl,hc.out.trans (hb1.mono (by omega))⟩
 have hv:=aa (show (!xs.any fun x=> !p x)=xs.all p from by rw [BX])
 have hS:=aa (h.below sR (hw.mono hB))
 replace hg:=aa hg
 replace hf:=aa hf
 clear hcb
 go_enter func66,ntmps66
 go_wp2_with (go_at_call 141;refine (iO sR _ _ kh _ _ _ _ _ (by omega) hS.out hg.out).mono ?_;rintro e w' ⟨rfl,hb⟩)
 go_ret
 exact ⟨ah hv.out,hw.trans (hb.mono (by omega))⟩
theorem jp:∀ args w,(callFunc 150 args).run prog w=.ok (.enter 150 args) w:=enters_of func150 (by kernel_rfl) rfl
theorem sH {α:Type} {R:CR α} (sR:dM R) {B:Nat} (fid:Nat) (lb:Array Value) (eg:∀ args w,(callFunc fid args).run prog w=.ok (.enter fid args) w) (p:α→Bool) (A:Option Addr) (cap:Nat) (xs:List α) (w:World) (hB:B≤w.heap.size) (h:Sl 1 R w B A xs) (hf:ew yF 1 B R fid lb p xs w):
  Calls prog 69 #[.slice A xs.length cap,.func (.func fid) #[] lb] w fun e w'=>e=.returned (.bool (xs.all p))∧Below w.heap.size w w':=by
 obtain ⟨wb,hwb,hsz,hw,hcb,-⟩:=al w #[.func (.func fid) #[] lb] 118
 have hg:ew yF 1 B R 150 #[.pointer (some ⟨w.heap.size,0,none⟩)] (fun x=> !p x) xs wb:=fun i x cs W hx hb hr hel=>by
  have hbw:=hw.trans (hb.mono (by omega))
  match cs,hel with
  | [a0],_=>
   have hcall:Calls prog fid (#[a0]++lb) W _:=hf i x [a0] W hx hbw hr rfl
   have hbox:W.cell? ⟨w.heap.size,0,none⟩=some (.func (.func fid) #[] lb):=(bx hb w.heap.size 0 (by omega)).trans (hcb 0)
   clear hf hr hwb
   show Calls _ _ (#[a0,.pointer (some ⟨w.heap.size,0,none⟩)]) _ _
   go_enter func150,ntmps150
   go_wp2_with (go_at_fn fid;refine hcall.mono ?_;rintro e w' ⟨rfl,hb1⟩)
   go_ret
   exact ⟨rfl,hb1⟩
 have hv:=aa (show (!xs.any fun x=> !p x)=xs.all p from by rw [BX])
 have hS:=aa (h.below sR (hw.mono hB))
 replace hg:=aa hg
 replace hf:=aa hf
 clear hcb
 go_enter func69,ntmps69
 go_wp2_with (go_at_call 149;refine (iC sR _ _ jp _ _ _ _ _ (by omega) hS.out hg.out).mono ?_;rintro e w' ⟨rfl,hb⟩)
 go_ret
 exact ⟨ah hv.out,hw.trans (hb.mono (by omega))⟩
theorem lI:∀ args w,(callFunc 123 args).run prog w=.ok (.enter 123 args) w:=enters_of func123 (by kernel_rfl) rfl
theorem qt {α:Type} {R:CR α} (sR:dM R) {B:Nat} (fid:Nat) (lb:Array Value) (eg:∀ args w,(callFunc fid args).run prog w=.ok (.enter fid args) w) (p:α→Bool) (A:Option Addr) (cap:Nat) (xs:List α) (w:World) (hB:B≤w.heap.size) (h:Sl 9 R w B A xs) (hf:ew cB 9 B R fid lb p xs w):
  Calls prog 52 #[.slice A xs.length cap,.func (.func fid) #[] lb] w fun e w'=>e=.returned (.bool (xs.all p))∧Below w.heap.size w w':=by
 obtain ⟨wb,hwb,hsz,hw,hcb,-⟩:=al w #[.func (.func fid) #[] lb] 86
 have hg:ew cB 9 B R 123 #[.pointer (some ⟨w.heap.size,0,none⟩)] (fun x=> !p x) xs wb:=fun i x cs W hx hb hr hel=>by
  have hbw:=hw.trans (hb.mono (by omega))
  match cs,hel with
  | [a0,a1,a2,a3,a4,a5,a6,a7,a8],_=>
   obtain ⟨wc,hwc,hzc,hc,hcc,-⟩:=al W #[a0,a1,a2,a3,a4,a5,a6,a7,a8] 45
   have hBW:B≤W.heap.size:=Bj hB hbw.size
   have hcall:Calls prog fid (#[.agg #[a0,a1,a2,a3,a4,a5,a6,a7,a8]]++lb) wc _:=hf i x [a0,a1,a2,a3,a4,a5,a6,a7,a8] wc hx (hbw.trans (hc.mono hbw.size)) (sR.keep hr fun q hq=>hc.cell (Bg hq hBW)) rfl
   have hbox:wc.cell? ⟨w.heap.size,0,none⟩=some (.func (.func fid) #[] lb):=(bx hc w.heap.size 0 (by have:=hb.size;omega)).trans ((bx hb w.heap.size 0 (by omega)).trans (hcb 0))
   have y0:wc.cell? ⟨W.heap.size,0,none⟩=some a0:=hcc 0
   have y1:wc.cell? ⟨W.heap.size,1,none⟩=some a1:=hcc 1
   have y2:wc.cell? ⟨W.heap.size,2,none⟩=some a2:=hcc 2
   have y3:wc.cell? ⟨W.heap.size,3,none⟩=some a3:=hcc 3
   have y4:wc.cell? ⟨W.heap.size,4,none⟩=some a4:=hcc 4
   have y5:wc.cell? ⟨W.heap.size,5,none⟩=some a5:=hcc 5
   have y6:wc.cell? ⟨W.heap.size,6,none⟩=some a6:=hcc 6
   have y7:wc.cell? ⟨W.heap.size,7,none⟩=some a7:=hcc 7
   have y8:wc.cell? ⟨W.heap.size,8,none⟩=some a8:=hcc 8
   replace hc:=aa hc
   clear hf hr hwb hcc
   show Calls _ _ (#[.agg #[a0,a1,a2,a3,a4,a5,a6,a7,a8],.pointer (some ⟨w.heap.size,0,none⟩)]) _ _
   go_enter func123,ntmps123
   go_wp2_with (go_at_fn fid;refine hcall.mono ?_;rintro e w' ⟨rfl,hb1⟩)
   go_ret
   exact ⟨rfl,hc.out.trans (hb1.mono (by omega))⟩
 have hv:=aa (show (!xs.any fun x=> !p x)=xs.all p from by rw [BX])
 have hS:=aa (h.below sR (hw.mono hB))
 replace hg:=aa hg
 replace hf:=aa hf
 clear hcb
 go_enter func52,ntmps52
 go_wp2_with (go_at_call 122;refine (jk sR _ _ lI _ _ _ _ _ (by omega) hS.out hg.out).mono ?_;rintro e w' ⟨rfl,hb⟩)
 go_ret
 exact ⟨ah hv.out,hw.trans (hb.mono (by omega))⟩
theorem lJ:∀ args w,(callFunc 192 args).run prog w=.ok (.enter 192 args) w:=enters_of func192 (by kernel_rfl) rfl
theorem wZ {α:Type} {R:CR α} (sR:dM R) {B:Nat} (fid:Nat) (lb:Array Value) (eg:∀ args w,(callFunc fid args).run prog w=.ok (.enter fid args) w) (p:α→Bool) (A:Option Addr) (cap:Nat) (xs:List α) (w:World) (hB:B≤w.heap.size) (h:Sl 3 R w B A xs) (hf:ew cB 3 B R fid lb p xs w):
  Calls prog 135 #[.slice A xs.length cap,.func (.func fid) #[] lb] w fun e w'=>e=.returned (.bool (xs.all p))∧Below w.heap.size w w':=by
 obtain ⟨wb,hwb,hsz,hw,hcb,-⟩:=al w #[.func (.func fid) #[] lb] 165
 have hg:ew cB 3 B R 192 #[.pointer (some ⟨w.heap.size,0,none⟩)] (fun x=> !p x) xs wb:=fun i x cs W hx hb hr hel=>by
  have hbw:=hw.trans (hb.mono (by omega))
  match cs,hel with
  | [a0,a1,a2],_=>
   obtain ⟨wc,hwc,hzc,hc,hcc,-⟩:=al W #[a0,a1,a2] 70
   have hBW:B≤W.heap.size:=Bj hB hbw.size
   have hcall:Calls prog fid (#[.agg #[a0,a1,a2]]++lb) wc _:=hf i x [a0,a1,a2] wc hx (hbw.trans (hc.mono hbw.size)) (sR.keep hr fun q hq=>hc.cell (Bg hq hBW)) rfl
   have hbox:wc.cell? ⟨w.heap.size,0,none⟩=some (.func (.func fid) #[] lb):=(bx hc w.heap.size 0 (by have:=hb.size;omega)).trans ((bx hb w.heap.size 0 (by omega)).trans (hcb 0))
   have y0:wc.cell? ⟨W.heap.size,0,none⟩=some a0:=hcc 0
   have y1:wc.cell? ⟨W.heap.size,1,none⟩=some a1:=hcc 1
   have y2:wc.cell? ⟨W.heap.size,2,none⟩=some a2:=hcc 2
   replace hc:=aa hc
   clear hf hr hwb hcc
   show Calls _ _ (#[.agg #[a0,a1,a2],.pointer (some ⟨w.heap.size,0,none⟩)]) _ _
   go_enter func192,ntmps192
   go_wp2_with (go_at_fn fid;refine hcall.mono ?_;rintro e w' ⟨rfl,hb1⟩)
   go_ret
   exact ⟨rfl,hc.out.trans (hb1.mono (by omega))⟩
 have hv:=aa (show (!xs.any fun x=> !p x)=xs.all p from by rw [BX])
 have hS:=aa (h.below sR (hw.mono hB))
 replace hg:=aa hg
 replace hf:=aa hf
 clear hcb
 go_enter func135,ntmps135
 go_wp2_with (go_at_call 191;refine (jl sR _ _ lJ _ _ _ _ _ (by omega) hS.out hg.out).mono ?_;rintro e w' ⟨rfl,hb⟩)
 go_ret
 exact ⟨ah hv.out,hw.trans (hb.mono (by omega))⟩
theorem mw:∀ args w,(callFunc 194 args).run prog w=.ok (.enter 194 args) w:=enters_of func194 (by kernel_rfl) rfl
theorem yG {α:Type} {R:CR α} (sR:dM R) {B:Nat} (fid:Nat) (lb:Array Value) (eg:∀ args w,(callFunc fid args).run prog w=.ok (.enter fid args) w) (p:α→Bool) (A:Option Addr) (cap:Nat) (xs:List α) (w:World) (hB:B≤w.heap.size) (h:Sl 7 R w B A xs) (hf:ew cB 7 B R fid lb p xs w):
  Calls prog 137 #[.slice A xs.length cap,.func (.func fid) #[] lb] w fun e w'=>e=.returned (.bool (xs.all p))∧Below w.heap.size w w':=by
 obtain ⟨wb,hwb,hsz,hw,hcb,-⟩:=al w #[.func (.func fid) #[] lb] 164
 have hg:ew cB 7 B R 194 #[.pointer (some ⟨w.heap.size,0,none⟩)] (fun x=> !p x) xs wb:=fun i x cs W hx hb hr hel=>by
  have hbw:=hw.trans (hb.mono (by omega))
  match cs,hel with
  | [a0,a1,a2,a3,a4,a5,a6],_=>
   obtain ⟨wc,hwc,hzc,hc,hcc,-⟩:=al W #[a0,a1,a2,a3,a4,a5,a6] 97
   have hBW:B≤W.heap.size:=Bj hB hbw.size
   have hcall:Calls prog fid (#[.agg #[a0,a1,a2,a3,a4,a5,a6]]++lb) wc _:=hf i x [a0,a1,a2,a3,a4,a5,a6] wc hx (hbw.trans (hc.mono hbw.size)) (sR.keep hr fun q hq=>hc.cell (Bg hq hBW)) rfl
   have hbox:wc.cell? ⟨w.heap.size,0,none⟩=some (.func (.func fid) #[] lb):=(bx hc w.heap.size 0 (by have:=hb.size;omega)).trans ((bx hb w.heap.size 0 (by omega)).trans (hcb 0))
   have y0:wc.cell? ⟨W.heap.size,0,none⟩=some a0:=hcc 0
   have y1:wc.cell? ⟨W.heap.size,1,none⟩=some a1:=hcc 1
   have y2:wc.cell? ⟨W.heap.size,2,none⟩=some a2:=hcc 2
   have y3:wc.cell? ⟨W.heap.size,3,none⟩=some a3:=hcc 3
   have y4:wc.cell? ⟨W.heap.size,4,none⟩=some a4:=hcc 4
   have y5:wc.cell? ⟨W.heap.size,5,none⟩=some a5:=hcc 5
   have y6:wc.cell? ⟨W.heap.size,6,none⟩=some a6:=hcc 6
   replace hc:=aa hc
   clear hf hr hwb hcc
   show Calls _ _ (#[.agg #[a0,a1,a2,a3,a4,a5,a6],.pointer (some ⟨w.heap.size,0,none⟩)]) _ _
   go_enter func194,ntmps194
   go_wp2_with (go_at_fn fid;refine hcall.mono ?_;rintro e w' ⟨rfl,hb1⟩)
   go_ret
   exact ⟨rfl,hc.out.trans (hb1.mono (by omega))⟩
 have hv:=aa (show (!xs.any fun x=> !p x)=xs.all p from by rw [BX])
 have hS:=aa (h.below sR (hw.mono hB))
 replace hg:=aa hg
 replace hf:=aa hf
 clear hcb
 go_enter func137,ntmps137
 go_wp2_with (go_at_call 193;refine (j9 sR _ _ mw _ _ _ _ _ (by omega) hS.out hg.out).mono ?_;rintro e w' ⟨rfl,hb⟩)
 go_ret
 exact ⟨ah hv.out,hw.trans (hb.mono (by omega))⟩
theorem mx:∀ args w,(callFunc 197 args).run prog w=.ok (.enter 197 args) w:=enters_of func197 (by kernel_rfl) rfl
theorem yH {α:Type} {R:CR α} (sR:dM R) {B:Nat} (fid:Nat) (lb:Array Value) (eg:∀ args w,(callFunc fid args).run prog w=.ok (.enter fid args) w) (p:α→Bool) (A:Option Addr) (cap:Nat) (xs:List α) (w:World) (hB:B≤w.heap.size) (h:Sl 10 R w B A xs) (hf:ew cB 10 B R fid lb p xs w):
  Calls prog 144 #[.slice A xs.length cap,.func (.func fid) #[] lb] w fun e w'=>e=.returned (.bool (xs.all p))∧Below w.heap.size w w':=by
 obtain ⟨wb,hwb,hsz,hw,hcb,-⟩:=al w #[.func (.func fid) #[] lb] 166
 have hg:ew cB 10 B R 197 #[.pointer (some ⟨w.heap.size,0,none⟩)] (fun x=> !p x) xs wb:=fun i x cs W hx hb hr hel=>by
  have hbw:=hw.trans (hb.mono (by omega))
  match cs,hel with
  | [a0,a1,a2,a3,a4,a5,a6,a7,a8,a9],_=>
   obtain ⟨wc,hwc,hzc,hc,hcc,-⟩:=al W #[a0,a1,a2,a3,a4,a5,a6,a7,a8,a9] 52
   have hBW:B≤W.heap.size:=Bj hB hbw.size
   have hcall:Calls prog fid (#[.agg #[a0,a1,a2,a3,a4,a5,a6,a7,a8,a9]]++lb) wc _:=hf i x [a0,a1,a2,a3,a4,a5,a6,a7,a8,a9] wc hx (hbw.trans (hc.mono hbw.size)) (sR.keep hr fun q hq=>hc.cell (Bg hq hBW)) rfl
   have hbox:wc.cell? ⟨w.heap.size,0,none⟩=some (.func (.func fid) #[] lb):=(bx hc w.heap.size 0 (by have:=hb.size;omega)).trans ((bx hb w.heap.size 0 (by omega)).trans (hcb 0))
   have y0:wc.cell? ⟨W.heap.size,0,none⟩=some a0:=hcc 0
   have y1:wc.cell? ⟨W.heap.size,1,none⟩=some a1:=hcc 1
   have y2:wc.cell? ⟨W.heap.size,2,none⟩=some a2:=hcc 2
   have y3:wc.cell? ⟨W.heap.size,3,none⟩=some a3:=hcc 3
   have y4:wc.cell? ⟨W.heap.size,4,none⟩=some a4:=hcc 4
   have y5:wc.cell? ⟨W.heap.size,5,none⟩=some a5:=hcc 5
   have y6:wc.cell? ⟨W.heap.size,6,none⟩=some a6:=hcc 6
   have y7:wc.cell? ⟨W.heap.size,7,none⟩=some a7:=hcc 7
   have y8:wc.cell? ⟨W.heap.size,8,none⟩=some a8:=hcc 8
   have y9:wc.cell? ⟨W.heap.size,9,none⟩=some a9:=hcc 9
   replace hc:=aa hc
   clear hf hr hwb hcc
   show Calls _ _ (#[.agg #[a0,a1,a2,a3,a4,a5,a6,a7,a8,a9],.pointer (some ⟨w.heap.size,0,none⟩)]) _ _
   go_enter func197,ntmps197
   go_wp2_with (go_at_fn fid;refine hcall.mono ?_;rintro e w' ⟨rfl,hb1⟩)
   go_ret
   exact ⟨rfl,hc.out.trans (hb1.mono (by omega))⟩
 have hv:=aa (show (!xs.any fun x=> !p x)=xs.all p from by rw [BX])
 have hS:=aa (h.below sR (hw.mono hB))
 replace hg:=aa hg
 replace hf:=aa hf
 clear hcb
 go_enter func144,ntmps144
 go_wp2_with (go_at_call 196;refine (ka sR _ _ mx _ _ _ _ _ (by omega) hS.out hg.out).mono ?_;rintro e w' ⟨rfl,hb⟩)
 go_ret
 exact ⟨ah hv.out,hw.trans (hb.mono (by omega))⟩
theorem my:∀ args w,(callFunc 199 args).run prog w=.ok (.enter 199 args) w:=enters_of func199 (by kernel_rfl) rfl
theorem yI {α:Type} {R:CR α} (sR:dM R) {B:Nat} (fid:Nat) (lb:Array Value) (eg:∀ args w,(callFunc fid args).run prog w=.ok (.enter fid args) w) (p:α→Bool) (A:Option Addr) (cap:Nat) (xs:List α) (w:World) (hB:B≤w.heap.size) (h:Sl 3 R w B A xs) (hf:ew cB 3 B R fid lb p xs w):
  Calls prog 145 #[.slice A xs.length cap,.func (.func fid) #[] lb] w fun e w'=>e=.returned (.bool (xs.all p))∧Below w.heap.size w w':=by
 obtain ⟨wb,hwb,hsz,hw,hcb,-⟩:=al w #[.func (.func fid) #[] lb] 112
 have hg:ew cB 3 B R 199 #[.pointer (some ⟨w.heap.size,0,none⟩)] (fun x=> !p x) xs wb:=fun i x cs W hx hb hr hel=>by
  have hbw:=hw.trans (hb.mono (by omega))
  match cs,hel with
  | [a0,a1,a2],_=>
   obtain ⟨wc,hwc,hzc,hc,hcc,-⟩:=al W #[a0,a1,a2] 42
   have hBW:B≤W.heap.size:=Bj hB hbw.size
   have hcall:Calls prog fid (#[.agg #[a0,a1,a2]]++lb) wc _:=hf i x [a0,a1,a2] wc hx (hbw.trans (hc.mono hbw.size)) (sR.keep hr fun q hq=>hc.cell (Bg hq hBW)) rfl
   have hbox:wc.cell? ⟨w.heap.size,0,none⟩=some (.func (.func fid) #[] lb):=(bx hc w.heap.size 0 (by have:=hb.size;omega)).trans ((bx hb w.heap.size 0 (by omega)).trans (hcb 0))
   have y0:wc.cell? ⟨W.heap.size,0,none⟩=some a0:=hcc 0
   have y1:wc.cell? ⟨W.heap.size,1,none⟩=some a1:=hcc 1
   have y2:wc.cell? ⟨W.heap.size,2,none⟩=some a2:=hcc 2
   replace hc:=aa hc
   clear hf hr hwb hcc
   show Calls _ _ (#[.agg #[a0,a1,a2],.pointer (some ⟨w.heap.size,0,none⟩)]) _ _
   go_enter func199,ntmps199
   go_wp2_with (go_at_fn fid;refine hcall.mono ?_;rintro e w' ⟨rfl,hb1⟩)
   go_ret
   exact ⟨rfl,hc.out.trans (hb1.mono (by omega))⟩
 have hv:=aa (show (!xs.any fun x=> !p x)=xs.all p from by rw [BX])
 have hS:=aa (h.below sR (hw.mono hB))
 replace hg:=aa hg
 replace hf:=aa hf
 clear hcb
 go_enter func145,ntmps145
 go_wp2_with (go_at_call 198;refine (kd sR _ _ my _ _ _ _ _ (by omega) hS.out hg.out).mono ?_;rintro e w' ⟨rfl,hb⟩)
 go_ret
 exact ⟨ah hv.out,hw.trans (hb.mono (by omega))⟩
theorem lK:∀ args w,(callFunc 201 args).run prog w=.ok (.enter 201 args) w:=enters_of func201 (by kernel_rfl) rfl
theorem xc {α:Type} {R:CR α} (sR:dM R) {B:Nat} (fid:Nat) (lb:Array Value) (eg:∀ args w,(callFunc fid args).run prog w=.ok (.enter fid args) w) (p:α→Bool) (A:Option Addr) (cap:Nat) (xs:List α) (w:World) (hB:B≤w.heap.size) (h:Sl 14 R w B A xs) (hf:ew cB 14 B R fid lb p xs w):
  Calls prog 146 #[.slice A xs.length cap,.func (.func fid) #[] lb] w fun e w'=>e=.returned (.bool (xs.all p))∧Below w.heap.size w w':=by
 obtain ⟨wb,hwb,hsz,hw,hcb,-⟩:=al w #[.func (.func fid) #[] lb] 171
 have hg:ew cB 14 B R 201 #[.pointer (some ⟨w.heap.size,0,none⟩)] (fun x=> !p x) xs wb:=fun i x cs W hx hb hr hel=>by
  have hbw:=hw.trans (hb.mono (by omega))
  match cs,hel with
  | [a0,a1,a2,a3,a4,a5,a6,a7,a8,a9,a10,a11,a12,a13],_=>
   obtain ⟨wc,hwc,hzc,hc,hcc,-⟩:=al W #[a0,a1,a2,a3,a4,a5,a6,a7,a8,a9,a10,a11,a12,a13] 47
   have hBW:B≤W.heap.size:=Bj hB hbw.size
   have hcall:Calls prog fid (#[.agg #[a0,a1,a2,a3,a4,a5,a6,a7,a8,a9,a10,a11,a12,a13]]++lb) wc _:=hf i x [a0,a1,a2,a3,a4,a5,a6,a7,a8,a9,a10,a11,a12,a13] wc hx (hbw.trans (hc.mono hbw.size)) (sR.keep hr fun q hq=>hc.cell (Bg hq hBW)) rfl
   have hbox:wc.cell? ⟨w.heap.size,0,none⟩=some (.func (.func fid) #[] lb):=(bx hc w.heap.size 0 (by have:=hb.size;omega)).trans ((bx hb w.heap.size 0 (by omega)).trans (hcb 0))
   have y0:wc.cell? ⟨W.heap.size,0,none⟩=some a0:=hcc 0
   have y1:wc.cell? ⟨W.heap.size,1,none⟩=some a1:=hcc 1
   have y2:wc.cell? ⟨W.heap.size,2,none⟩=some a2:=hcc 2
   have y3:wc.cell? ⟨W.heap.size,3,none⟩=some a3:=hcc 3
   have y4:wc.cell? ⟨W.heap.size,4,none⟩=some a4:=hcc 4
   have y5:wc.cell? ⟨W.heap.size,5,none⟩=some a5:=hcc 5
   have y6:wc.cell? ⟨W.heap.size,6,none⟩=some a6:=hcc 6
   have y7:wc.cell? ⟨W.heap.size,7,none⟩=some a7:=hcc 7
   have y8:wc.cell? ⟨W.heap.size,8,none⟩=some a8:=hcc 8
   have y9:wc.cell? ⟨W.heap.size,9,none⟩=some a9:=hcc 9
   have y10:wc.cell? ⟨W.heap.size,10,none⟩=some a10:=hcc 10
   have y11:wc.cell? ⟨W.heap.size,11,none⟩=some a11:=hcc 11
   have y12:wc.cell? ⟨W.heap.size,12,none⟩=some a12:=hcc 12
   have y13:wc.cell? ⟨W.heap.size,13,none⟩=some a13:=hcc 13
   replace hc:=aa hc
   clear hf hr hwb hcc
   show Calls _ _ (#[.agg #[a0,a1,a2,a3,a4,a5,a6,a7,a8,a9,a10,a11,a12,a13],.pointer (some ⟨w.heap.size,0,none⟩)]) _ _
   go_enter func201,ntmps201
   go_wp2_with (go_at_fn fid;refine hcall.mono ?_;rintro e w' ⟨rfl,hb1⟩)
   go_ret
   exact ⟨rfl,hc.out.trans (hb1.mono (by omega))⟩
 have hv:=aa (show (!xs.any fun x=> !p x)=xs.all p from by rw [BX])
 have hS:=aa (h.below sR (hw.mono hB))
 replace hg:=aa hg
 replace hf:=aa hf
 clear hcb
 go_enter func146,ntmps146
 go_wp2_with (go_at_call 200;refine (jm sR _ _ lK _ _ _ _ _ (by omega) hS.out hg.out).mono ?_;rintro e w' ⟨rfl,hb⟩)
 go_ret
 exact ⟨ah hv.out,hw.trans (hb.mono (by omega))⟩
theorem ez (c:Int) (w:World):Calls prog 164 #[.int .u8 c] w fun e w'=>e=.returned (.bool (dS c))∧w=w':=by
 go_enter func164,ntmps164
 go_wp2
 all_goals
  go_ret
  exact ⟨je (by simp [dS];omega),rfl⟩
theorem gJ (c:Int) (w:World):Calls prog 126 #[.int .u8 c] w fun e w'=>e=.returned (.bool (dS c))∧w=w':=by
 go_enter func126,ntmps126
 go_wp2
 all_goals
  go_ret
  exact ⟨je (by simp [dS];omega),rfl⟩
theorem js (c:Int) (w:World):Calls prog 166 #[.int .u8 c] w fun e w'=>e=.returned (.bool (ie c))∧w=w':=by
 go_enter func166,ntmps166
 go_wp2
 all_goals
  go_ret
  exact ⟨je (by simp [ie];omega),rfl⟩
theorem mz (c:Int) (w:World):Calls prog 186 #[.int .u8 c] w fun e w'=>e=.returned (.bool (dx c))∧w=w':=by
 go_enter func186,ntmps186
 go_wp2_with (go_at_call 126;refine (gJ _ _).mono ?_;rintro e w' ⟨rfl,rfl⟩)
 all_goals
  go_ret
  refine ⟨je ?_,rfl⟩
  simp only [dS,decide_eq_true_eq,decide_eq_false_iff_not] at*
  simp [dx,dS,ie];try omega
theorem gK (s:ByteArray) (w:World) (hs:s.size≤maxLen):
  Calls prog 125 #[.string s] w fun e w'=>e=.returned (.string (s.extract 0 (fV s)))∧w=w':=by
 have hl:s.size≤9223372036854775807:=hs
 go_enter func125,ntmps125
 go_wp2
 go_loop [3] (fun i=>∃ k:Nat,k≤s.size∧i=.int .i64 k∧k≤fV s) (fun i=>s.size-(intOf i).toNat)
 case atStart=>exact ⟨0,Bo _,rfl,Bo _⟩
 case round=>
  obtain ⟨k,hk,rfl,hc⟩:=hrel
  by_cases hlt:k<s.size
  ·go_wp2_with (go_at_call 186;refine (mz _ _).mono ?_;rintro e w' ⟨rfl,rfl⟩)
   ·go_round
    case rel=>exact ⟨k+1,by omega,by go_num,nZ hlt hc ‹_›⟩
    case measure=>simp [intOf];omega
   ·go_ret
    rw [oa hlt hc ‹_›]
    exact ⟨rfl,rfl⟩
  ·go_wp2_with (go_at_call 186;refine (mz _ _).mono ?_;rintro e w' ⟨rfl,rfl⟩)
   go_ret
   rw [qn hk hlt hc]
   exact ⟨rfl,rfl⟩
theorem nF (s:ByteArray) (m:Int) (w:World) (hs:s.size<4294967281) (hm:w.cell? ⟨0,0,none⟩=some (.int .i64 m)):
  Calls prog 127 #[.string s] w fun e w'=>e=.returned (.bool (uB s))∧w=w':=by
 go_enter func127,ntmps127
 by_cases h0:s.toList= []
 ·have h0':s.toList.isEmpty=true:=by simp [h0]
  go_wp2
  go_ret
  exact ⟨ah (uC h0).symm,rfl⟩
 ·have h0':s.toList.isEmpty=false:=by simp [h0]
  go_wp2_with fail
  refine (Tryz.strings_Contains _ _ m _ hs hm).mono ?_
  rintro e w' ⟨rfl,rfl⟩
  cases hb:Go.Lib.contains s.data.toList (ByteArray.mk #[32]).data.toList with
  |true=>
   go_wp2_with fail
   go_ret
   exact ⟨ah (uD hb).symm,rfl⟩
  |false=>
   go_wp2_with fail
   refine (Tryz.strings_Contains _ _ m _ (by decide+kernel) hm).mono ?_
   rintro e w' ⟨rfl,rfl⟩
   rw [zW s _ (by decide+kernel) h0 ‹_›]
   go_wp2_with fail
   go_ret
   exact ⟨rfl,rfl⟩
theorem aV (s:ByteArray) (m:Int) (w:World) (hs:s.size≤maxLen) (hm:w.cell? ⟨0,0,none⟩=some (.int .i64 m)):
  Calls prog 58 #[.string s] w fun e w'=>e=.returned (.bool (av s))∧w=w':=by
 have hn:=aa (wU s)
 go_enter func58,ntmps58
 cases ha:((s.extract 0 (fV s)).toList==s.toList) with
 |false=>
  go_wp2_with (go_at_call 125;refine (gK _ _ hs).mono ?_;rintro e w' ⟨rfl,rfl⟩)
  go_ret
  exact ⟨ah (by rw [hn.out,ha];rfl),rfl⟩
 |true=>
  by_cases h0:0<s.size
  ·have h0':s.toList.isEmpty=false:=iD h0
   by_cases h16:s.size≤16
   ·cases hd:dS (s[0].toNat:Nat) with
    |true=>
     go_wp2_with (first|(go_at_call 125;refine (gK _ _ hs).mono ?_;rintro e w' ⟨rfl,rfl⟩)|(go_at_call 126;refine (gJ _ _).mono ?_;rintro e w' ⟨rfl,rfl⟩))
     go_ret
     exact ⟨ah (by rw [hn.out,mj h0,hd];simp),rfl⟩
    |false=>
     go_wp2_with (first|(go_at_call 125;refine (gK _ _ hs).mono ?_;rintro e w' ⟨rfl,rfl⟩)|(go_at_call 126;refine (gJ _ _).mono ?_;rintro e w' ⟨rfl,rfl⟩)|(go_at_call 127;refine (nF _ m _ (by omega) hm).mono ?_;rintro e w' ⟨rfl,rfl⟩))
     go_ret
     exact ⟨ah (by rw [hn.out,mj h0,hd,ha,h0'];simp [h16]),rfl⟩
   ·go_wp2_with (go_at_call 125;refine (gK _ _ hs).mono ?_;rintro e w' ⟨rfl,rfl⟩)
    go_ret
    exact ⟨ah (by rw [hn.out];simp [h16]),rfl⟩
  ·have h0':s.toList.isEmpty=true:=jg h0
   go_wp2_with (go_at_call 125;refine (gK _ _ hs).mono ?_;rintro e w' ⟨rfl,rfl⟩)
   go_ret
   exact ⟨ah (by rw [hn.out,h0'];simp),rfl⟩
theorem xd (w:World) (t:TypeId):Sl 1 iy (w.alloc (.cells (eo.map Value.string).toArray t)) (w.heap.size+1) (some ⟨w.heap.size,0,none⟩) eo:=
 Sl.new1 eo Value.string t (by decide) fun x hx=>⟨rfl,by have:=sz x hx;simp [maxLen];omega⟩
theorem om:eo.length=32:=rfl
theorem gA (s:ByteArray) (w:World):
  Calls prog 165 #[.string s] w fun e w'=>e=.returned (.bool (uB s))∧Below w.heap.size w w':=by
 have hkb:=aa (yy s)
 go_enter func165,ntmps165
 go_wp2
 have hb1:Below w.heap.size w (w.alloc (.cells (eo.map Value.string).toArray 9)):=(Bi _ _).alloc (Bm _) _
 have hsl:=xd w 9
 change Code.wp _ _ _ _ (w.alloc (.cells (eo.map Value.string).toArray 9))
 generalize w.alloc (.cells (eo.map Value.string).toArray 9)=w1 at hb1 hsl ⊢
 go_loop [4] (fun i=>∃ k:Nat,k≤32∧i=.int .i64 k∧s∉eo.take k) (fun i=>32-(intOf i).toNat)
 case atStart=>exact ⟨0,Bo _,rfl,by simp⟩
 case round=>
  obtain ⟨k,hk,rfl,hc⟩:=hrel
  by_cases hlt:k<32
  ·obtain ⟨b,o,hA,hb,hcell,-⟩:=hsl.str (i:=k) (by rw [om];exact hlt)
   obtain ⟨rfl,rfl⟩:b=w.heap.size∧o=0:=by simp at hA;omega
   have hk':k<eo.length:=by rw [om];exact hlt
   simp only [Nat.zero_add] at hcell
   clear hA hsl
   by_cases he:eo[k]=s
   ·have ht:=gC he
    have hv:=aa (show s∈eo from by rw [←he];exact Bv _)
    clear he
    generalize eo[k]=kk at hcell ht
    go_wp2
    go_ret
    exact ⟨ah (by rw [hkb.out];simpa using hv.out),hb1⟩
   ·have ht:=gD he
    have hv:=aa (dQ hk' hc he)
    clear he
    generalize eo[k]=kk at hcell ht
    go_wp2
    go_round
    case rel=>exact ⟨k+1,by omega,by go_num,hv.out⟩
    case measure=>simp [intOf];omega
  ·go_wp2
   go_ret
   exact ⟨ah (by rw [hkb.out];simpa using eN (xs:=eo) hk hlt hc),hb1⟩
theorem bG (s:ByteArray) (w:World):
  Calls prog 100 #[.string s] w fun e w'=>e=.returned (.bool (av s))∧Below w.heap.size w w':=by
 go_enter func100,ntmps100
 by_cases h0:s.size<1
 rotate_right
 focus
  by_cases h16:16<s.size
  rotate_right
  focus
   have h0':0<s.size:=by omega
   have hhd:=aa (mj h0')
   cases hd:dS (s[0].toNat:Nat) with
   |false=>
    cases hkw:uB s with
    |false=>
     have hv:=aa (show av s=s.data.toList.all (fun c=>dx c.toNat) from by rw [av,hhd.out,hd,hkw];simp;omega)
     go_wp2_with (first|(go_at_call 164;refine (ez _ _).mono ?_;rintro e w' ⟨rfl,rfl⟩)|(go_at_call 165;refine (gA _ _).mono ?_;rintro e w1 ⟨rfl,hb1⟩))
     go_loop [3] (fun i=>∃ k:Nat,k≤s.size∧i=.int .i64 k∧k≤fV s) (fun i=>s.size-(intOf i).toNat)
     case atStart=>exact ⟨0,Bo _,rfl,Bo _⟩
     case round=>
      obtain ⟨k,hk,rfl,hc⟩:=hrel
      by_cases hlt:k<s.size
      focus
       cases hw:dx (s[k].toNat:Nat)
       focus
        have hv':=aa (show av s=false from by
         have:=oa hlt hc hw
         rw [hv.out,BD,Ne,←ij]
         simp [fV] at this ⊢;omega)
        have hl:ie (s[k].toNat:Nat)=false:=by simp [dx] at hw;exact hw.2
        have hdd:dS (s[k].toNat:Nat)=false:=by simp [dx] at hw;exact hw.1
        go_wp2_with (first|(go_at_call 164;refine (ez _ _).mono ?_;rintro e w' ⟨rfl,rfl⟩)|(go_at_call 166;refine (js _ _).mono ?_;rintro e w' ⟨rfl,rfl⟩))
        go_ret
        exact ⟨ah hv'.out.symm,hb1⟩
       rotate_right
       focus
        have hv':=aa (nZ hlt hc hw)
        cases hl:ie (s[k].toNat:Nat)
        have hdd:dS (s[k].toNat:Nat)=true:=by simpa [dx,hl] using hw
      rotate_right
      focus
       have hv':=aa (show av s=true from by
        have:=qn hk hlt hc
        rw [hv.out,←ij]
        simp [fV] at this ⊢;omega)
       go_wp2
       go_ret
       exact ⟨ah hv'.out.symm,hb1⟩
      all_goals
       go_wp2_with (first|(go_at_call 164;refine (ez _ _).mono ?_;rintro e w' ⟨rfl,rfl⟩)|(go_at_call 166;refine (js _ _).mono ?_;rintro e w' ⟨rfl,rfl⟩))
       go_round
       case rel=>exact ⟨k+1,by omega,by go_num,hv'.out⟩
       case measure=>simp [intOf];omega
    |true=>
     have hv:=aa (show av s=false from by simp [av,hkw])
     go_wp2_with (first|(go_at_call 164;refine (ez _ _).mono ?_;rintro e w' ⟨rfl,rfl⟩)|(go_at_call 165;refine (gA _ _).mono ?_;rintro e w1 ⟨rfl,hb1⟩))
     go_ret
     exact ⟨ah hv.out.symm,hb1⟩
   |true=>
    have hv:=aa (show av s=false from by rw [av,hhd.out,hd];simp)
    go_wp2_with (go_at_call 164;refine (ez _ _).mono ?_;rintro e w' ⟨rfl,rfl⟩)
    go_ret
    exact ⟨ah hv.out.symm,tZ⟩
 all_goals
  have hv:=aa (show av s=false from by simp [av];omega)
  go_wp2
  go_ret
  exact ⟨ah hv.out.symm,tZ⟩
theorem pj {s:ByteArray} (l:List UInt8):s=ByteArray.mk l.toArray↔s.toList=l:=by
 rw [ByteArray.toList_eq]
 constructor
 ·intro h;rw [h]
 ·intro h;rw [←h]
theorem fi {s:ByteArray}:s=pd↔s.toList= [97,99,99,101,112,116]:=pj _
theorem fj {s:ByteArray}:s=pf↔s.toList= [114,101,106,101,99,116]:=pj _
theorem ak {s:ByteArray}:s=aB↔s.toList= []:=pj _
theorem kT (n:Int) (w:World):Calls prog 119 #[.int .i64 n] w fun e w'=>e=.returned (.bool (cE n))∧w=w':=by
 go_enter func119,ntmps119
 by_cases h1:1≤n
 ·by_cases h2:n≤128
  ·go_wp2
   go_ret
   exact ⟨ah (by simp [cE,h1,h2]),rfl⟩
  ·go_wp2
   go_ret
   exact ⟨ah (by simp [cE,h2]),rfl⟩
 ·go_wp2
  go_ret
  exact ⟨ah (by simp [cE];omega),rfl⟩
theorem jt (s:ByteArray) (m:Int) (w:World) (hs:s.size≤maxLen) (hm:w.cell? ⟨0,0,none⟩=some (.int .i64 m)):
  Calls prog 134 #[.string s] w fun e w'=>e=.returned (.bool (bY s))∧w=w':=by
 go_enter func134,ntmps134
 by_cases h1:s=pd
 ·have e1:=fi.1 h1
  have hv:=aa (show bY s=true from by simp [bY,h1])
  clear h1
  go_wp2
  go_ret
  exact ⟨ah hv.out.symm,rfl⟩
 ·have e1:=fun h=>h1 (fi.2 h)
  by_cases h2:s=pf
  ·have e2:=fj.1 h2
   have hv:=aa (show bY s=true from by simp [bY,h2])
   clear h1 h2
   go_wp2
   go_ret
   exact ⟨ah hv.out.symm,rfl⟩
  ·have e2:=fun h=>h2 (fj.2 h)
   have hv:=aa (show bY s=av s from by simp [bY,h1,h2])
   clear h1 h2
   go_wp2_with (go_at_call 58;refine (aV s m _ hs hm).mono ?_;rintro e w' ⟨rfl,rfl⟩)
   go_ret
   exact ⟨ah (by rw [hv.out,beq_eq_false_iff_ne.2 e1,beq_eq_false_iff_ne.2 e2];rfl),rfl⟩
theorem oo (s:ByteArray) (b:Bool) (m:Int) (w:World) (hs:s.size≤maxLen) (hm:w.cell? ⟨0,0,none⟩=some (.int .i64 m)):
  Calls prog 48 #[.string s,.bool b] w fun e w'=>e=.returned (.bool (aK s b))∧w=w':=by
 go_enter func48,ntmps48
 cases b
 focus
  by_cases h1:s=aB
  ·have e1:=ak.1 h1
   have hv:=aa (show aK s false=true from by simp [aK,h1])
   clear h1
   go_wp2
   go_ret
   exact ⟨ah hv.out.symm,rfl⟩
  ·have e1:=fun h=>h1 (ak.2 h)
   have hv:=aa (show aK s false=false from by simp [aK,h1])
   clear h1
   go_wp2
   go_ret
   exact ⟨ah (by rw [hv.out];simpa using e1),rfl⟩
 rotate_right
 focus cases hn:av s
 all_goals
  have hv:=aa hn
  have hc:=aV s m w hs hm
  rw [hn] at hc
  clear hn
  go_wp2_with (go_at_call 58;refine hc.mono ?_;rintro e w' ⟨rfl,rfl⟩)
  go_ret
  exact ⟨ah (by simp [aK,hv.out]),rfl⟩
theorem qu (f:Fd) (m:Int) (w:World) (hs:f.1.size≤maxLen) (hm:w.cell? ⟨0,0,none⟩=some (.int .i64 m)):
  Calls prog 60 #[.agg #[.string f.1,.int .i64 f.2]] w fun e w'=>e=.returned (.bool (gB f))∧Below w.heap.size w w':=by
 obtain ⟨wb,hwb,hsz,hw,hcb,-⟩:=al w #[.string f.1,.int .i64 f.2] 84
 have y0:wb.cell? ⟨w.heap.size,0,none⟩=some (.string f.1):=hcb 0
 have y1:wb.cell? ⟨w.heap.size,1,none⟩=some (.int .i64 f.2):=hcb 1
 have hm':wb.cell? ⟨0,0,none⟩=some (.int .i64 m):=(hw.cell (p:=⟨0,0,none⟩) (World.block_lt_of_cell? w _ hm)).trans hm
 have hc:=aV f.1 m wb hs hm'
 have hv:=aa (show gB f=(av f.1&&cE f.2) from rfl)
 replace hw:=aa hw
 clear hcb hm hm'
 go_enter func60,ntmps60
 cases hn:av f.1 with
 |true=>
  rw [hn] at hc hv
  clear hn
  go_wp2_with (first|(go_at_call 58;refine hc.mono ?_;rintro e w' ⟨rfl,rfl⟩)|(go_at_call 119;refine (kT _ _).mono ?_;rintro e w' ⟨rfl,rfl⟩))
  go_ret
  exact ⟨ah (by rw [hv.out];simp),hw.out⟩
 |false=>
  rw [hn] at hc hv
  clear hn
  go_wp2_with (go_at_call 58;refine hc.mono ?_;rintro e w' ⟨rfl,rfl⟩)
  go_ret
  exact ⟨ah (by rw [hv.out];simp),hw.out⟩
end Go.Proofs.YtbbdhknagofghaaGreat

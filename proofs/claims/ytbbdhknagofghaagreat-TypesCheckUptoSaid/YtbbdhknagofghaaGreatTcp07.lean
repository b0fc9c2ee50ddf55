import Derived.Test.YtbbdhknagofghaaGreatTcp05
set_option linter.all false
set_option maxHeartbeats 1000000
open Go.Proofs.Tryz
namespace Go.Proofs.YtbbdhknagofghaaGreat
open _root_.Go.Calls renaming regrown_of→Bh
open _root_.Go.RowKit.Below renaming refl→Bi
open _root_.List renaming getElem?_eq_getElem→Bk, getElem_mem→Bv, all_eq_true→Bw, length_cons→By, take_of_length_le→BB, map_cons→BF, take_succ_eq_append_getElem→BO, mem_cons_of_mem→BT, mem_cons_self→BW
open _root_.Go.Sort renaming grow→Bl
open _root_.Nat renaming le_refl→Bm, zero_le→Bo
open _root_.Bool renaming and_eq_true→Bn
open _root_.Int renaming toNat_natCast→BM, eq_ofNat_of_zero_le→BR
open Go.RowKit
theorem qy (s:ByteArray) (a1:Value) (w:World):Calls prog 154 #[.agg #[.string s,a1]] w fun e w'=>e=.returned (.string s)∧Below w.heap.size w w':=by
 obtain ⟨wb,hwb,hsz,hw,hcb,-⟩:=al w #[.string s,a1] 84
 have y0:wb.cell? ⟨w.heap.size,0,none⟩=some (.string s):=hcb 0
 have y1:wb.cell? ⟨w.heap.size,1,none⟩=some a1:=hcb 1
 replace hw:=aa hw
 clear hcb
 go_enter func154,ntmps154
 go_wp2
 go_ret
 exact ⟨rfl,hw.out⟩
theorem mA:∀ args w,(callFunc 154 args).run prog w=.ok (.enter 154 args) w:=enters_of func154 (by kernel_rfl) rfl
theorem ju:∀ args w,(callFunc 205 args).run prog w=.ok (.enter 205 args) w:=enters_of func205 (by kernel_rfl) rfl
theorem iQ (A:Option Addr) (cap:Nat) (xs:List Fd) (s:ByteArray) (w:World) {B:Nat} (hB:B≤w.heap.size) (h:Sl 2 sq w B A xs):
  Calls prog 153 #[.slice A xs.length cap,.string s,.func (.func 154) #[] #[]] w fun e w'=>e=.returned (.int .i64 (cw xs s))∧Below w.heap.size w w':=by
 obtain ⟨w1,hw1,hz1,hb1,hc1,-⟩:=al w #[.string s] 9
 obtain ⟨w2,hw2,hz2,hb2,hc2,-⟩:=al w1 #[.func (.func 154) #[] #[]] 175
 have hb12:=hb1.trans (hb2.mono (by omega))
 have hg:ew cB 2 B sq 205 #[.pointer (some ⟨(w.heap.size+1),0,none⟩),.pointer (some ⟨w.heap.size,0,none⟩)] (fun x:Fd=>decide (x.1=s)) xs w2:=fun i x cs W hx hb hr hel=>by
  obtain ⟨rfl,-,-⟩:=hr
  obtain ⟨wc,hwc,hzc,hc,hcc,-⟩:=al W #[.string x.1,.int .i64 x.2] 84
  have hsW:=hb.size
  have y0:wc.cell? ⟨W.heap.size,0,none⟩=some (.string x.1):=hcc 0
  have y1:wc.cell? ⟨W.heap.size,1,none⟩=some (.int .i64 x.2):=hcc 1
  have e1:wc.cell? ⟨(w.heap.size+1),0,none⟩=some (.func (.func 154) #[] #[]):=(hc.cell (p:=⟨(w.heap.size+1),0,none⟩) (by show w.heap.size+1<_;omega)).trans ((hb.cell (p:=⟨(w.heap.size+1),0,none⟩) (by show w.heap.size+1<_;omega)).trans (by have:=hc2 0;rw [hz1] at this;exact this))
  have e0':W.cell? ⟨w.heap.size,0,none⟩=some (.string s):=(bx hb w.heap.size 0 (by omega)).trans ((bx hb2 w.heap.size 0 (by omega)).trans (hc1 0))
  have e0:wc.cell? ⟨w.heap.size,0,none⟩=some (.string s):=(bx hc w.heap.size 0 (by omega)).trans e0'
  have hcall:∀ d os,Hid (Calls prog 154 #[.agg #[.string x.1,.int .i64 x.2]] (Bl (redrawn wc d) os) _):=fun d os=>aa (qy x.1 (.int .i64 x.2) _)
  have hg:=ax (show Below wc.heap.size wc wc from Bi _ _) (Bm _)
  have hlt1:(w.heap.size+1)<wc.heap.size:=by omega
  have hlt2:W.heap.size<wc.heap.size:=by omega
  have hlt3:w.heap.size<W.heap.size:=by omega
  have hlt4:w.heap.size<W.heap.size+1:=by omega
  have hlt5:w.heap.size+1<W.heap.size:=by omega
  have hlt0:w.heap.size<wc.heap.size:=by omega
  have eg:=mA
  replace hc:=aa hc
  clear hcc
  show Calls _ _ (#[.agg #[.string x.1,.int .i64 x.2],.pointer (some ⟨(w.heap.size+1),0,none⟩),.pointer (some ⟨w.heap.size,0,none⟩)]) _ _
  go_enter func205,ntmps205
  go_wp2_with fail
  replace hg:=fun d os b o h=>hg d os b o h
  refine cD ?_
  repeat (any_goals (first|go_big_quiet_step (first|(go_at_fn 154;with_reducible exact Bh (hcall _ _).out)|(go_at_call 154;with_reducible exact Bh (hcall _ _).out))|quiet_step (first|(go_at_fn 154;with_reducible exact Bh (hcall _ _).out)|(go_at_call 154;with_reducible exact Bh (hcall _ _).out))))
  refine wpQuiet_nil ?_
  intro w3 hw3
  replace hw3:=ac hw3
  go_wp2
  go_ret
  exact ⟨ah (fQ _ _),hc.out.trans (hw3.mono (by omega))⟩
 have hv:=aa (fD Prod.fst s xs)
 have hS:=aa (h.below bA (hb12.mono hB))
 replace hg:=aa hg
 clear hc1 hc2
 go_enter func153,ntmps153
 go_wp2_with (go_at_call 188;refine (gx (R:=sq) (B:=B) bA 205 #[.pointer (some ⟨(w.heap.size+1),0,none⟩),.pointer (some ⟨w.heap.size,0,none⟩)] ju (fun x:Fd=>decide (x.1=s)) A cap xs w2 (by omega) hS.out hg.out).mono ?_;rintro e w' ⟨rfl,hb⟩)
 go_ret
 exact ⟨ag hv.out,hb12.trans (hb.mono (by omega))⟩
theorem pl {w:World} {B:Nat} {cs:List Value} {x:Hd} (h:yv w B cs x):∃ tl,cs=.string x.name::tl:=by
 obtain ⟨A,cap,rfl,_⟩:=h
 exact ⟨_,rfl⟩
theorem pm (s:ByteArray) (a1:Value) (w:World):Calls prog 152 #[.agg #[.string s,a1]] w fun e w'=>e=.returned (.string s)∧Below w.heap.size w w':=by
 obtain ⟨wb,hwb,hsz,hw,hcb,-⟩:=al w #[.string s,a1] 66
 have y0:wb.cell? ⟨w.heap.size,0,none⟩=some (.string s):=hcb 0
 have y1:wb.cell? ⟨w.heap.size,1,none⟩=some a1:=hcb 1
 replace hw:=aa hw
 clear hcb
 go_enter func152,ntmps152
 go_wp2
 go_ret
 exact ⟨rfl,hw.out⟩
theorem lL:∀ args w,(callFunc 152 args).run prog w=.ok (.enter 152 args) w:=enters_of func152 (by kernel_rfl) rfl
theorem iR:∀ args w,(callFunc 204 args).run prog w=.ok (.enter 204 args) w:=enters_of func204 (by kernel_rfl) rfl
theorem qz (A:Option Addr) (cap:Nat) (xs:List Hd) (s:ByteArray) (w:World) {B:Nat} (hB:B≤w.heap.size) (h:Sl 2 yv w B A xs):
  Calls prog 151 #[.slice A xs.length cap,.string s,.func (.func 152) #[] #[]] w fun e w'=>e=.returned (.int .i64 (bb (xs.map Hd.name) s))∧Below w.heap.size w w':=by
 obtain ⟨w1,hw1,hz1,hb1,hc1,-⟩:=al w #[.string s] 9
 obtain ⟨w2,hw2,hz2,hb2,hc2,-⟩:=al w1 #[.func (.func 152) #[] #[]] 173
 have hb12:=hb1.trans (hb2.mono (by omega))
 have hg:ew cB 2 B yv 204 #[.pointer (some ⟨(w.heap.size+1),0,none⟩),.pointer (some ⟨w.heap.size,0,none⟩)] (fun x:Hd=>decide (x.name=s)) xs w2:=fun i x cs W hx hb hr hel=>by
  obtain ⟨tl,rfl⟩:∃ tl,cs=.string x.name::tl:=pl hr
  obtain ⟨a1,rfl⟩:∃ a1,tl= [a1]:=by
   match tl,hel with
   | [a1],_=>exact ⟨a1,rfl⟩
  obtain ⟨wc,hwc,hzc,hc,hcc,-⟩:=al W #[.string x.name,a1] 66
  have hsW:=hb.size
  have y0:wc.cell? ⟨W.heap.size,0,none⟩=some (.string x.name):=hcc 0
  have y1:wc.cell? ⟨W.heap.size,1,none⟩=some a1:=hcc 1
  have e1:wc.cell? ⟨(w.heap.size+1),0,none⟩=some (.func (.func 152) #[] #[]):=(hc.cell (p:=⟨(w.heap.size+1),0,none⟩) (by show w.heap.size+1<_;omega)).trans ((hb.cell (p:=⟨(w.heap.size+1),0,none⟩) (by show w.heap.size+1<_;omega)).trans (by have:=hc2 0;rw [hz1] at this;exact this))
  have e0':W.cell? ⟨w.heap.size,0,none⟩=some (.string s):=(bx hb w.heap.size 0 (by omega)).trans ((bx hb2 w.heap.size 0 (by omega)).trans (hc1 0))
  have e0:wc.cell? ⟨w.heap.size,0,none⟩=some (.string s):=(bx hc w.heap.size 0 (by omega)).trans e0'
  have hcall:∀ d os,Hid (Calls prog 152 #[.agg #[.string x.name,a1]] (Bl (redrawn wc d) os) _):=fun d os=>aa (pm x.name a1 _)
  have hg:=ax (show Below wc.heap.size wc wc from Bi _ _) (Bm _)
  have hlt1:(w.heap.size+1)<wc.heap.size:=by omega
  have hlt2:W.heap.size<wc.heap.size:=by omega
  have hlt3:w.heap.size<W.heap.size:=by omega
  have hlt4:w.heap.size<W.heap.size+1:=by omega
  have hlt5:w.heap.size+1<W.heap.size:=by omega
  have hlt0:w.heap.size<wc.heap.size:=by omega
  have eg:=lL
  replace hc:=aa hc
  clear hcc
  show Calls _ _ (#[.agg #[.string x.name,a1],.pointer (some ⟨(w.heap.size+1),0,none⟩),.pointer (some ⟨w.heap.size,0,none⟩)]) _ _
  go_enter func204,ntmps204
  go_wp2_with fail
  replace hg:=fun d os b o h=>hg d os b o h
  refine cD ?_
  repeat (any_goals (first|go_big_quiet_step (first|(go_at_fn 152;with_reducible exact Bh (hcall _ _).out)|(go_at_call 152;with_reducible exact Bh (hcall _ _).out))|quiet_step (first|(go_at_fn 152;with_reducible exact Bh (hcall _ _).out)|(go_at_call 152;with_reducible exact Bh (hcall _ _).out))))
  refine wpQuiet_nil ?_
  intro w3 hw3
  replace hw3:=ac hw3
  go_wp2
  go_ret
  exact ⟨ah (fQ _ _),hc.out.trans (hw3.mono (by omega))⟩
 have hv:=aa (fD Hd.name s xs)
 have hS:=aa (h.below fS (hb12.mono hB))
 replace hg:=aa hg
 clear hc1 hc2
 go_enter func151,ntmps151
 go_wp2_with (go_at_call 189;refine (fE (R:=yv) (B:=B) fS 204 #[.pointer (some ⟨(w.heap.size+1),0,none⟩),.pointer (some ⟨w.heap.size,0,none⟩)] iR (fun x:Hd=>decide (x.name=s)) A cap xs w2 (by omega) hS.out hg.out).mono ?_;rintro e w' ⟨rfl,hb⟩)
 go_ret
 exact ⟨ag hv.out,hb12.trans (hb.mono (by omega))⟩
theorem pn {w:World} {B:Nat} {cs:List Value} {x:Ac} (h:yw w B cs x):∃ tl,cs=.string x.name::tl:=by
 obtain ⟨A1,c1,A2,c2,rfl,_⟩:=h
 exact ⟨_,rfl⟩
theorem po (s:ByteArray) (a1 a2:Value) (w:World):Calls prog 99 #[.agg #[.string s,a1,a2]] w fun e w'=>e=.returned (.string s)∧Below w.heap.size w w':=by
 obtain ⟨wb,hwb,hsz,hw,hcb,-⟩:=al w #[.string s,a1,a2] 72
 have y0:wb.cell? ⟨w.heap.size,0,none⟩=some (.string s):=hcb 0
 have y1:wb.cell? ⟨w.heap.size,1,none⟩=some a1:=hcb 1
 have y2:wb.cell? ⟨w.heap.size,2,none⟩=some a2:=hcb 2
 replace hw:=aa hw
 clear hcb
 go_enter func99,ntmps99
 go_wp2
 go_ret
 exact ⟨rfl,hw.out⟩
theorem lM:∀ args w,(callFunc 99 args).run prog w=.ok (.enter 99 args) w:=enters_of func99 (by kernel_rfl) rfl
theorem iS:∀ args w,(callFunc 163 args).run prog w=.ok (.enter 163 args) w:=enters_of func163 (by kernel_rfl) rfl
theorem qA (A:Option Addr) (cap:Nat) (xs:List Ac) (s:ByteArray) (w:World) {B:Nat} (hB:B≤w.heap.size) (h:Sl 3 yw w B A xs):
  Calls prog 98 #[.slice A xs.length cap,.string s,.func (.func 99) #[] #[]] w fun e w'=>e=.returned (.int .i64 (bb (xs.map Ac.name) s))∧Below w.heap.size w w':=by
 obtain ⟨w1,hw1,hz1,hb1,hc1,-⟩:=al w #[.string s] 9
 obtain ⟨w2,hw2,hz2,hb2,hc2,-⟩:=al w1 #[.func (.func 99) #[] #[]] 150
 have hb12:=hb1.trans (hb2.mono (by omega))
 have hg:ew cB 3 B yw 163 #[.pointer (some ⟨(w.heap.size+1),0,none⟩),.pointer (some ⟨w.heap.size,0,none⟩)] (fun x:Ac=>decide (x.name=s)) xs w2:=fun i x cs W hx hb hr hel=>by
  obtain ⟨tl,rfl⟩:∃ tl,cs=.string x.name::tl:=pn hr
  obtain ⟨a1,a2,rfl⟩:∃ a1 a2,tl= [a1,a2]:=by
   match tl,hel with
   | [a1,a2],_=>exact ⟨a1,a2,rfl⟩
  obtain ⟨wc,hwc,hzc,hc,hcc,-⟩:=al W #[.string x.name,a1,a2] 72
  have hsW:=hb.size
  have y0:wc.cell? ⟨W.heap.size,0,none⟩=some (.string x.name):=hcc 0
  have y1:wc.cell? ⟨W.heap.size,1,none⟩=some a1:=hcc 1
  have y2:wc.cell? ⟨W.heap.size,2,none⟩=some a2:=hcc 2
  have e1:wc.cell? ⟨(w.heap.size+1),0,none⟩=some (.func (.func 99) #[] #[]):=(hc.cell (p:=⟨(w.heap.size+1),0,none⟩) (by show w.heap.size+1<_;omega)).trans ((hb.cell (p:=⟨(w.heap.size+1),0,none⟩) (by show w.heap.size+1<_;omega)).trans (by have:=hc2 0;rw [hz1] at this;exact this))
  have e0':W.cell? ⟨w.heap.size,0,none⟩=some (.string s):=(bx hb w.heap.size 0 (by omega)).trans ((bx hb2 w.heap.size 0 (by omega)).trans (hc1 0))
  have e0:wc.cell? ⟨w.heap.size,0,none⟩=some (.string s):=(bx hc w.heap.size 0 (by omega)).trans e0'
  have hcall:∀ d os,Hid (Calls prog 99 #[.agg #[.string x.name,a1,a2]] (Bl (redrawn wc d) os) _):=fun d os=>aa (po x.name a1 a2 _)
  have hg:=ax (show Below wc.heap.size wc wc from Bi _ _) (Bm _)
  have hlt1:(w.heap.size+1)<wc.heap.size:=by omega
  have hlt2:W.heap.size<wc.heap.size:=by omega
  have hlt3:w.heap.size<W.heap.size:=by omega
  have hlt4:w.heap.size<W.heap.size+1:=by omega
  have hlt5:w.heap.size+1<W.heap.size:=by omega
  have hlt0:w.heap.size<wc.heap.size:=by omega
  have eg:=lM
  replace hc:=aa hc
  clear hcc
  show Calls _ _ (#[.agg #[.string x.name,a1,a2],.pointer (some ⟨(w.heap.size+1),0,none⟩),.pointer (some ⟨w.heap.size,0,none⟩)]) _ _
  go_enter func163,ntmps163
  go_wp2_with fail
  replace hg:=fun d os b o h=>hg d os b o h
  refine cD ?_
  repeat (any_goals (first|go_big_quiet_step (first|(go_at_fn 99;with_reducible exact Bh (hcall _ _).out)|(go_at_call 99;with_reducible exact Bh (hcall _ _).out))|quiet_step (first|(go_at_fn 99;with_reducible exact Bh (hcall _ _).out)|(go_at_call 99;with_reducible exact Bh (hcall _ _).out))))
  refine wpQuiet_nil ?_
  intro w3 hw3
  replace hw3:=ac hw3
  go_wp2
  go_ret
  exact ⟨ah (fQ _ _),hc.out.trans (hw3.mono (by omega))⟩
 have hv:=aa (fD Ac.name s xs)
 have hS:=aa (h.below fT (hb12.mono hB))
 replace hg:=aa hg
 clear hc1 hc2
 go_enter func98,ntmps98
 go_wp2_with (go_at_call 162;refine (fF (R:=yw) (B:=B) fT 163 #[.pointer (some ⟨(w.heap.size+1),0,none⟩),.pointer (some ⟨w.heap.size,0,none⟩)] iS (fun x:Ac=>decide (x.name=s)) A cap xs w2 (by omega) hS.out hg.out).mono ?_;rintro e w' ⟨rfl,hb⟩)
 go_ret
 exact ⟨ag hv.out,hb12.trans (hb.mono (by omega))⟩
theorem qB {w:World} {B:Nat} {cs:List Value} {x:Ta} (h:wT w B cs x):∃ tl,cs=.string x.name::tl:=by
 obtain ⟨A1,c1,A2,c2,A3,c3,rfl,_⟩:=h
 exact ⟨_,rfl⟩
theorem qD (s:ByteArray) (a1 a2 a3 a4:Value) (w:World):Calls prog 159 #[.agg #[.string s,a1,a2,a3,a4]] w fun e w'=>e=.returned (.string s)∧Below w.heap.size w w':=by
 obtain ⟨wb,hwb,hsz,hw,hcb,-⟩:=al w #[.string s,a1,a2,a3,a4] 58
 have y0:wb.cell? ⟨w.heap.size,0,none⟩=some (.string s):=hcb 0
 have y1:wb.cell? ⟨w.heap.size,1,none⟩=some a1:=hcb 1
 have y2:wb.cell? ⟨w.heap.size,2,none⟩=some a2:=hcb 2
 have y3:wb.cell? ⟨w.heap.size,3,none⟩=some a3:=hcb 3
 have y4:wb.cell? ⟨w.heap.size,4,none⟩=some a4:=hcb 4
 replace hw:=aa hw
 clear hcb
 go_enter func159,ntmps159
 go_wp2
 go_ret
 exact ⟨rfl,hw.out⟩
theorem mB:∀ args w,(callFunc 159 args).run prog w=.ok (.enter 159 args) w:=enters_of func159 (by kernel_rfl) rfl
theorem jv:∀ args w,(callFunc 207 args).run prog w=.ok (.enter 207 args) w:=enters_of func207 (by kernel_rfl) rfl
theorem sI (A:Option Addr) (cap:Nat) (xs:List Ta) (s:ByteArray) (w:World) {B:Nat} (hB:B≤w.heap.size) (h:Sl 5 wT w B A xs):
  Calls prog 158 #[.slice A xs.length cap,.string s,.func (.func 159) #[] #[]] w fun e w'=>e=.returned (.int .i64 (bb (xs.map Ta.name) s))∧Below w.heap.size w w':=by
 obtain ⟨w1,hw1,hz1,hb1,hc1,-⟩:=al w #[.string s] 9
 obtain ⟨w2,hw2,hz2,hb2,hc2,-⟩:=al w1 #[.func (.func 159) #[] #[]] 180
 have hb12:=hb1.trans (hb2.mono (by omega))
 have hg:ew cB 5 B wT 207 #[.pointer (some ⟨(w.heap.size+1),0,none⟩),.pointer (some ⟨w.heap.size,0,none⟩)] (fun x:Ta=>decide (x.name=s)) xs w2:=fun i x cs W hx hb hr hel=>by
  obtain ⟨tl,rfl⟩:∃ tl,cs=.string x.name::tl:=qB hr
  obtain ⟨a1,a2,a3,a4,rfl⟩:∃ a1 a2 a3 a4,tl= [a1,a2,a3,a4]:=by
   match tl,hel with
   | [a1,a2,a3,a4],_=>exact ⟨a1,a2,a3,a4,rfl⟩
  obtain ⟨wc,hwc,hzc,hc,hcc,-⟩:=al W #[.string x.name,a1,a2,a3,a4] 58
  have hsW:=hb.size
  have y0:wc.cell? ⟨W.heap.size,0,none⟩=some (.string x.name):=hcc 0
  have y1:wc.cell? ⟨W.heap.size,1,none⟩=some a1:=hcc 1
  have y2:wc.cell? ⟨W.heap.size,2,none⟩=some a2:=hcc 2
  have y3:wc.cell? ⟨W.heap.size,3,none⟩=some a3:=hcc 3
  have y4:wc.cell? ⟨W.heap.size,4,none⟩=some a4:=hcc 4
  have e1:wc.cell? ⟨(w.heap.size+1),0,none⟩=some (.func (.func 159) #[] #[]):=(hc.cell (p:=⟨(w.heap.size+1),0,none⟩) (by show w.heap.size+1<_;omega)).trans ((hb.cell (p:=⟨(w.heap.size+1),0,none⟩) (by show w.heap.size+1<_;omega)).trans (by have:=hc2 0;rw [hz1] at this;exact this))
  have e0':W.cell? ⟨w.heap.size,0,none⟩=some (.string s):=(bx hb w.heap.size 0 (by omega)).trans ((bx hb2 w.heap.size 0 (by omega)).trans (hc1 0))
  have e0:wc.cell? ⟨w.heap.size,0,none⟩=some (.string s):=(bx hc w.heap.size 0 (by omega)).trans e0'
  have hcall:∀ d os,Hid (Calls prog 159 #[.agg #[.string x.name,a1,a2,a3,a4]] (Bl (redrawn wc d) os) _):=fun d os=>aa (qD x.name a1 a2 a3 a4 _)
  have hg:=ax (show Below wc.heap.size wc wc from Bi _ _) (Bm _)
  have hlt1:(w.heap.size+1)<wc.heap.size:=by omega
  have hlt2:W.heap.size<wc.heap.size:=by omega
  have hlt3:w.heap.size<W.heap.size:=by omega
  have hlt4:w.heap.size<W.heap.size+1:=by omega
  have hlt5:w.heap.size+1<W.heap.size:=by omega
  have hlt0:w.heap.size<wc.heap.size:=by omega
  have eg:=mB
  replace hc:=aa hc
  clear hcc
  show Calls _ _ (#[.agg #[.string x.name,a1,a2,a3,a4],.pointer (some ⟨(w.heap.size+1),0,none⟩),.pointer (some ⟨w.heap.size,0,none⟩)]) _ _
  go_enter func207,ntmps207
  go_wp2_with fail
  replace hg:=fun d os b o h=>hg d os b o h
  refine cD ?_
  repeat (any_goals (first|go_big_quiet_step (first|(go_at_fn 159;with_reducible exact Bh (hcall _ _).out)|(go_at_call 159;with_reducible exact Bh (hcall _ _).out))|quiet_step (first|(go_at_fn 159;with_reducible exact Bh (hcall _ _).out)|(go_at_call 159;with_reducible exact Bh (hcall _ _).out))))
  refine wpQuiet_nil ?_
  intro w3 hw3
  replace hw3:=ac hw3
  go_wp2
  go_ret
  exact ⟨ah (fQ _ _),hc.out.trans (hw3.mono (by omega))⟩
 have hv:=aa (fD Ta.name s xs)
 have hS:=aa (h.below gF (hb12.mono hB))
 replace hg:=aa hg
 clear hc1 hc2
 go_enter func158,ntmps158
 go_wp2_with (go_at_call 195;refine (gz (R:=wT) (B:=B) gF 207 #[.pointer (some ⟨(w.heap.size+1),0,none⟩),.pointer (some ⟨w.heap.size,0,none⟩)] jv (fun x:Ta=>decide (x.name=s)) A cap xs w2 (by omega) hS.out hg.out).mono ?_;rintro e w' ⟨rfl,hb⟩)
 go_ret
 exact ⟨ag hv.out,hb12.trans (hb.mono (by omega))⟩
theorem qE {w:World} {B:Nat} {cs:List Value} {x:Sa} (h:wS w B cs x):∃ tl,cs=.string x.name::tl:=by
 obtain ⟨A1,c1,A2,c2,A3,c3,rfl,_⟩:=h
 exact ⟨_,rfl⟩
theorem qI (s:ByteArray) (a1 a2 a3 a4:Value) (w:World):Calls prog 156 #[.agg #[.string s,a1,a2,a3,a4]] w fun e w'=>e=.returned (.string s)∧Below w.heap.size w w':=by
 obtain ⟨wb,hwb,hsz,hw,hcb,-⟩:=al w #[.string s,a1,a2,a3,a4] 61
 have y0:wb.cell? ⟨w.heap.size,0,none⟩=some (.string s):=hcb 0
 have y1:wb.cell? ⟨w.heap.size,1,none⟩=some a1:=hcb 1
 have y2:wb.cell? ⟨w.heap.size,2,none⟩=some a2:=hcb 2
 have y3:wb.cell? ⟨w.heap.size,3,none⟩=some a3:=hcb 3
 have y4:wb.cell? ⟨w.heap.size,4,none⟩=some a4:=hcb 4
 replace hw:=aa hw
 clear hcb
 go_enter func156,ntmps156
 go_wp2
 go_ret
 exact ⟨rfl,hw.out⟩
theorem mC:∀ args w,(callFunc 156 args).run prog w=.ok (.enter 156 args) w:=enters_of func156 (by kernel_rfl) rfl
theorem jx:∀ args w,(callFunc 206 args).run prog w=.ok (.enter 206 args) w:=enters_of func206 (by kernel_rfl) rfl
theorem sJ (A:Option Addr) (cap:Nat) (xs:List Sa) (s:ByteArray) (w:World) {B:Nat} (hB:B≤w.heap.size) (h:Sl 5 wS w B A xs):
  Calls prog 155 #[.slice A xs.length cap,.string s,.func (.func 156) #[] #[]] w fun e w'=>e=.returned (.int .i64 (bb (xs.map Sa.name) s))∧Below w.heap.size w w':=by
 obtain ⟨w1,hw1,hz1,hb1,hc1,-⟩:=al w #[.string s] 9
 obtain ⟨w2,hw2,hz2,hb2,hc2,-⟩:=al w1 #[.func (.func 156) #[] #[]] 177
 have hb12:=hb1.trans (hb2.mono (by omega))
 have hg:ew cB 5 B wS 206 #[.pointer (some ⟨(w.heap.size+1),0,none⟩),.pointer (some ⟨w.heap.size,0,none⟩)] (fun x:Sa=>decide (x.name=s)) xs w2:=fun i x cs W hx hb hr hel=>by
  obtain ⟨tl,rfl⟩:∃ tl,cs=.string x.name::tl:=qE hr
  obtain ⟨a1,a2,a3,a4,rfl⟩:∃ a1 a2 a3 a4,tl= [a1,a2,a3,a4]:=by
   match tl,hel with
   | [a1,a2,a3,a4],_=>exact ⟨a1,a2,a3,a4,rfl⟩
  obtain ⟨wc,hwc,hzc,hc,hcc,-⟩:=al W #[.string x.name,a1,a2,a3,a4] 61
  have hsW:=hb.size
  have y0:wc.cell? ⟨W.heap.size,0,none⟩=some (.string x.name):=hcc 0
  have y1:wc.cell? ⟨W.heap.size,1,none⟩=some a1:=hcc 1
  have y2:wc.cell? ⟨W.heap.size,2,none⟩=some a2:=hcc 2
  have y3:wc.cell? ⟨W.heap.size,3,none⟩=some a3:=hcc 3
  have y4:wc.cell? ⟨W.heap.size,4,none⟩=some a4:=hcc 4
  have e1:wc.cell? ⟨(w.heap.size+1),0,none⟩=some (.func (.func 156) #[] #[]):=(hc.cell (p:=⟨(w.heap.size+1),0,none⟩) (by show w.heap.size+1<_;omega)).trans ((hb.cell (p:=⟨(w.heap.size+1),0,none⟩) (by show w.heap.size+1<_;omega)).trans (by have:=hc2 0;rw [hz1] at this;exact this))
  have e0':W.cell? ⟨w.heap.size,0,none⟩=some (.string s):=(bx hb w.heap.size 0 (by omega)).trans ((bx hb2 w.heap.size 0 (by omega)).trans (hc1 0))
  have e0:wc.cell? ⟨w.heap.size,0,none⟩=some (.string s):=(bx hc w.heap.size 0 (by omega)).trans e0'
  have hcall:∀ d os,Hid (Calls prog 156 #[.agg #[.string x.name,a1,a2,a3,a4]] (Bl (redrawn wc d) os) _):=fun d os=>aa (qI x.name a1 a2 a3 a4 _)
  have hg:=ax (show Below wc.heap.size wc wc from Bi _ _) (Bm _)
  have hlt1:(w.heap.size+1)<wc.heap.size:=by omega
  have hlt2:W.heap.size<wc.heap.size:=by omega
  have hlt3:w.heap.size<W.heap.size:=by omega
  have hlt4:w.heap.size<W.heap.size+1:=by omega
  have hlt5:w.heap.size+1<W.heap.size:=by omega
  have hlt0:w.heap.size<wc.heap.size:=by omega
  have eg:=mC
  replace hc:=aa hc
  clear hcc
  show Calls _ _ (#[.agg #[.string x.name,a1,a2,a3,a4],.pointer (some ⟨(w.heap.size+1),0,none⟩),.pointer (some ⟨w.heap.size,0,none⟩)]) _ _
  go_enter func206,ntmps206
  go_wp2_with fail
  replace hg:=fun d os b o h=>hg d os b o h
  refine cD ?_
  repeat (any_goals (first|go_big_quiet_step (first|(go_at_fn 156;with_reducible exact Bh (hcall _ _).out)|(go_at_call 156;with_reducible exact Bh (hcall _ _).out))|quiet_step (first|(go_at_fn 156;with_reducible exact Bh (hcall _ _).out)|(go_at_call 156;with_reducible exact Bh (hcall _ _).out))))
  refine wpQuiet_nil ?_
  intro w3 hw3
  replace hw3:=ac hw3
  go_wp2
  go_ret
  exact ⟨ah (fQ _ _),hc.out.trans (hw3.mono (by omega))⟩
 have hv:=aa (fD Sa.name s xs)
 have hS:=aa (h.below gE (hb12.mono hB))
 replace hg:=aa hg
 clear hc1 hc2
 go_enter func155,ntmps155
 go_wp2_with (go_at_call 190;refine (gy (R:=wS) (B:=B) gE 206 #[.pointer (some ⟨(w.heap.size+1),0,none⟩),.pointer (some ⟨w.heap.size,0,none⟩)] jx (fun x:Sa=>decide (x.name=s)) A cap xs w2 (by omega) hS.out hg.out).mono ?_;rintro e w' ⟨rfl,hb⟩)
 go_ret
 exact ⟨ag hv.out,hb12.trans (hb.mono (by omega))⟩
theorem gL (w:World) (A1 A2 A3 A4 A5 A6 A7:Option Addr) (p:Pg) (c1 c2 c3 c4 c5 c6 c7:Nat) (s:ByteArray) {B:Nat} (hB:B≤w.heap.size) (h:bu w B A1 A2 A3 A4 A5 A6 A7 p):
  Calls prog 85 #[.agg (aq p A1 A2 A3 A4 A5 A6 A7 c1 c2 c3 c4 c5 c6 c7),.string s] w fun e w'=>e=.returned (.int .i64 (ct p s))∧Below w.heap.size w w':=by
 unfold aq
 obtain ⟨wb,hwb,hsz,hw,hcb,-⟩:=al w (aq p A1 A2 A3 A4 A5 A6 A7 c1 c2 c3 c4 c5 c6 c7) 30
 have y1:wb.cell? ⟨w.heap.size,1,none⟩=some (.slice A2 p.metas.length c2):=hcb 1
 have hcall:=iQ A2 c2 p.metas s wb (by omega) (h.metas.below bA (hw.mono hB))
 replace hw:=aa hw
 clear hcb h
 go_enter func85,ntmps85
 go_wp2_with (go_at_call 153;refine hcall.mono ?_;rintro e w' ⟨rfl,hb⟩)
 go_ret
 exact ⟨rfl,hw.out.trans (hb.mono (by omega))⟩
theorem fG (w:World) (A1 A2 A3 A4 A5 A6 A7:Option Addr) (p:Pg) (c1 c2 c3 c4 c5 c6 c7:Nat) (x:Int) (s:ByteArray) {B:Nat} (hB:B≤w.heap.size) (h:bu w B A1 A2 A3 A4 A5 A6 A7 p):
  Calls prog 84 #[.agg (aq p A1 A2 A3 A4 A5 A6 A7 c1 c2 c3 c4 c5 c6 c7),.int .i64 x,.string s] w fun e w'=>e=.returned (.int .i64 (aJ p x s))∧Below w.heap.size w w':=by
 unfold aq
 obtain ⟨wb,hwb,hsz,hw,hcb,-⟩:=al w (aq p A1 A2 A3 A4 A5 A6 A7 c1 c2 c3 c4 c5 c6 c7) 30
 have y0:wb.cell? ⟨w.heap.size,0,none⟩=some (.slice A1 p.headers.length c1):=hcb 0
 have hl:=h.headers.len
 have hS:=h.headers.below fS (hw.mono hB)
 replace hw:=aa hw
 clear hcb h
 go_enter func84,ntmps84
 by_cases h0:x<0
 ·have hv:=aa (show aJ p x s= -1 from by unfold aJ;rw [if_pos h0])
  go_wp2
  go_ret
  exact ⟨ag hv.out.symm,hw.out⟩
 ·by_cases h1:x<(p.headers.length:Int)
  ·obtain ⟨k,rfl⟩:=BR (show 0≤x by omega)
   have hlt:k<p.headers.length:=by omega
   obtain ⟨b,o,ecs,rfl,hb,hel,hcell,A',c',rfl,hn,hF⟩:=hS.2 k _ (Bk hlt)
   have hv:=aa (show aJ p (k:Int) s=cw p.headers[k].fields s from by unfold aJ;rw [if_neg h0,BM,Bk hlt];rfl)
   have hl':=hF.len
   have x0:wb.cell? ⟨b,o+k*2,none⟩=some (.string p.headers[k].name):=by simpa using hcell 0 _ rfl
   have x1:wb.cell? ⟨b,o+k*2+1,none⟩=some (.slice A' p.headers[k].fields.length c'):=hcell 1 _ rfl
   have hcall:=iQ A' c' p.headers[k].fields s wb (by omega) hF
   clear hcell hF hS
   go_wp2_with (go_at_call 153;refine hcall.mono ?_;rintro e w' ⟨rfl,hb⟩)
   go_ret
   exact ⟨ag hv.out.symm,hw.out.trans (hb.mono (by omega))⟩
  ·have hv:=aa (show aJ p x s= -1 from by unfold aJ;rw [if_neg h0,List.getElem?_eq_none (by omega)];rfl)
   go_wp2
   go_ret
   exact ⟨ag hv.out.symm,hw.out⟩
theorem ki (w:World) (A1 A2 A3 A4 A5 A6 A7:Option Addr) (p:Pg) (c1 c2 c3 c4 c5 c6 c7:Nat) (x:Int) (s:ByteArray) {B:Nat} (hB:B≤w.heap.size) (h:bu w B A1 A2 A3 A4 A5 A6 A7 p):
  Calls prog 88 #[.agg (aq p A1 A2 A3 A4 A5 A6 A7 c1 c2 c3 c4 c5 c6 c7),.int .i64 x,.string s] w fun e w'=>e=.returned (.int .i64 (aL p x s))∧Below w.heap.size w w':=by
 unfold aq
 obtain ⟨wb,hwb,hsz,hw,hcb,-⟩:=al w (aq p A1 A2 A3 A4 A5 A6 A7 c1 c2 c3 c4 c5 c6 c7) 30
 have y0:wb.cell? ⟨w.heap.size,3,none⟩=some (.slice A4 p.actions.length c4):=hcb 3
 have hl:=h.actions.len
 have hS:=h.actions.below fT (hw.mono hB)
 replace hw:=aa hw
 clear hcb h
 go_enter func88,ntmps88
 by_cases h0:x<0
 ·have hv:=aa (show aL p x s= -1 from by unfold aL;rw [if_pos h0])
  go_wp2
  go_ret
  exact ⟨ag hv.out.symm,hw.out⟩
 ·by_cases h1:x<(p.actions.length:Int)
  ·obtain ⟨k,rfl⟩:=BR (show 0≤x by omega)
   have hlt:k<p.actions.length:=by omega
   obtain ⟨b,o,ecs,rfl,hb,hel,hcell,A',c',A'',c'',rfl,hn,hF,hG⟩:=hS.2 k _ (Bk hlt)
   have hv:=aa (show aL p (k:Int) s=cw p.actions[k].params s from by unfold aL;rw [if_neg h0,BM,Bk hlt];rfl)
   have hl':=hF.len
   have x0:wb.cell? ⟨b,o+k*3,none⟩=some (.string p.actions[k].name):=by simpa using hcell 0 _ rfl
   have x1:wb.cell? ⟨b,o+k*3+1,none⟩=some (.slice A' p.actions[k].params.length c'):=hcell 1 _ rfl
   have x2:wb.cell? ⟨b,o+k*3+2,none⟩=some (.slice A'' p.actions[k].body.length c''):=hcell 2 _ rfl
   have hl2:=hG.len
   have hcall:=iQ A' c' p.actions[k].params s wb (by omega) hF
   clear hcell hF hS hG
   go_wp2_with (go_at_call 153;refine hcall.mono ?_;rintro e w' ⟨rfl,hb⟩)
   go_ret
   exact ⟨ag hv.out.symm,hw.out.trans (hb.mono (by omega))⟩
  ·have hv:=aa (show aL p x s= -1 from by unfold aL;rw [if_neg h0,List.getElem?_eq_none (by omega)];rfl)
   go_wp2
   go_ret
   exact ⟨ag hv.out.symm,hw.out⟩
theorem cK (w:World) (A1 A2 A3 A4 A5 A6 A7:Option Addr) (p:Pg) (c1 c2 c3 c4 c5 c6 c7:Nat) (s:ByteArray) {B:Nat} (hB:B≤w.heap.size) (h:bu w B A1 A2 A3 A4 A5 A6 A7 p):
  Calls prog 83 #[.agg (aq p A1 A2 A3 A4 A5 A6 A7 c1 c2 c3 c4 c5 c6 c7),.string s] w fun e w'=>e=.returned (.int .i64 (ap p s))∧Below w.heap.size w w':=by
 unfold aq
 obtain ⟨wb,hwb,hsz,hw,hcb,-⟩:=al w (aq p A1 A2 A3 A4 A5 A6 A7 c1 c2 c3 c4 c5 c6 c7) 30
 have y1:wb.cell? ⟨w.heap.size,0,none⟩=some (.slice A1 p.headers.length c1):=hcb 0
 have hcall:=qz A1 c1 p.headers s wb (by omega) (h.headers.below fS (hw.mono hB))
 replace hw:=aa hw
 clear hcb h
 go_enter func83,ntmps83
 go_wp2_with (go_at_call 151;refine hcall.mono ?_;rintro e w' ⟨rfl,hb⟩)
 go_ret
 exact ⟨rfl,hw.out.trans (hb.mono (by omega))⟩
theorem gc (w:World) (A1 A2 A3 A4 A5 A6 A7:Option Addr) (p:Pg) (c1 c2 c3 c4 c5 c6 c7:Nat) (s:ByteArray) {B:Nat} (hB:B≤w.heap.size) (h:bu w B A1 A2 A3 A4 A5 A6 A7 p):
  Calls prog 38 #[.agg (aq p A1 A2 A3 A4 A5 A6 A7 c1 c2 c3 c4 c5 c6 c7),.string s] w fun e w'=>e=.returned (.int .i64 (bz p s))∧Below w.heap.size w w':=by
 unfold aq
 obtain ⟨wb,hwb,hsz,hw,hcb,-⟩:=al w (aq p A1 A2 A3 A4 A5 A6 A7 c1 c2 c3 c4 c5 c6 c7) 30
 have y1:wb.cell? ⟨w.heap.size,3,none⟩=some (.slice A4 p.actions.length c4):=hcb 3
 have hcall:=qA A4 c4 p.actions s wb (by omega) (h.actions.below fT (hw.mono hB))
 replace hw:=aa hw
 clear hcb h
 go_enter func38,ntmps38
 go_wp2_with (go_at_call 98;refine hcall.mono ?_;rintro e w' ⟨rfl,hb⟩)
 go_ret
 exact ⟨rfl,hw.out.trans (hb.mono (by omega))⟩
theorem ov (w:World) (A1 A2 A3 A4 A5 A6 A7:Option Addr) (p:Pg) (c1 c2 c3 c4 c5 c6 c7:Nat) (s:ByteArray) {B:Nat} (hB:B≤w.heap.size) (h:bu w B A1 A2 A3 A4 A5 A6 A7 p):
  Calls prog 90 #[.agg (aq p A1 A2 A3 A4 A5 A6 A7 c1 c2 c3 c4 c5 c6 c7),.string s] w fun e w'=>e=.returned (.int .i64 (eE p s))∧Below w.heap.size w w':=by
 unfold aq
 obtain ⟨wb,hwb,hsz,hw,hcb,-⟩:=al w (aq p A1 A2 A3 A4 A5 A6 A7 c1 c2 c3 c4 c5 c6 c7) 30
 have y1:wb.cell? ⟨w.heap.size,4,none⟩=some (.slice A5 p.tables.length c5):=hcb 4
 have hcall:=sI A5 c5 p.tables s wb (by omega) (h.tables.below gF (hw.mono hB))
 replace hw:=aa hw
 clear hcb h
 go_enter func90,ntmps90
 go_wp2_with (go_at_call 158;refine hcall.mono ?_;rintro e w' ⟨rfl,hb⟩)
 go_ret
 exact ⟨rfl,hw.out.trans (hb.mono (by omega))⟩
theorem iT {k:IntKind} {a b:Int} {x y:Bool} (h:a=b) (g:x=y):Ending.returned (.tuple #[.int k a,.bool x])=.returned (.tuple #[.int k b,.bool y]):=by rw [h,g]
theorem ow (w:World) (A1 A2 A3 A4 A5 A6 A7:Option Addr) (p:Pg) (c1 c2 c3 c4 c5 c6 c7:Nat) (s:ByteArray) {B:Nat} (hB:B≤w.heap.size) (h:bu w B A1 A2 A3 A4 A5 A6 A7 p):
  Calls prog 86 #[.agg (aq p A1 A2 A3 A4 A5 A6 A7 c1 c2 c3 c4 c5 c6 c7),.string s] w fun e w'=>e=.returned (.tuple #[.int .i64 (co p s),.bool (cA p s)])∧Below w.heap.size w w':=by
 unfold aq
 obtain ⟨wb,hwb,hsz,hw,hcb,-⟩:=al w (aq p A1 A2 A3 A4 A5 A6 A7 c1 c2 c3 c4 c5 c6 c7) 30
 have y1:wb.cell? ⟨w.heap.size,2,none⟩=some (.slice A3 p.states.length c3):=hcb 2
 have hcall:=sJ A3 c3 p.states s wb (by omega) (h.states.below gE (hw.mono hB))
 replace hw:=aa hw
 clear hcb h
 go_enter func86,ntmps86
 by_cases h1:s=pd
 ·have e1:=fi.1 h1
  have hv:=aa (show co p s= -1∧cA p s=true from by simp [co,cA,h1])
  clear h1
  go_wp2
  go_ret2
  exact ⟨iT hv.out.1.symm hv.out.2.symm,hw.out⟩
 ·have e1:(s.toList== [97,99,99,101,112,116])=false:=by rw [beq_eq_false_iff_ne];exact fun h=>h1 (fi.2 h)
  by_cases h2:s=pf
  ·have e2:=fj.1 h2
   have hv:=aa (show co p s= -2∧cA p s=true from by simp [co,cA,h2];decide)
   clear h1 h2
   go_wp2
   go_ret2
   exact ⟨iT hv.out.1.symm hv.out.2.symm,hw.out⟩
  ·have e2:(s.toList== [114,101,106,101,99,116])=false:=by rw [beq_eq_false_iff_ne];exact fun h=>h2 (fj.2 h)
   have hv:=aa (show co p s=max (bb (p.states.map Sa.name) s) 0∧cA p s=decide (0≤bb (p.states.map Sa.name) s) from ⟨by simp [co,iK,h1,h2],by unfold cA iK;rw [if_neg h1,if_neg h2]⟩)
   clear h1 h2
   generalize bb (p.states.map Sa.name) s=z at hv hcall
   go_wp2_with (go_at_call 155;refine hcall.mono ?_;rintro e w' ⟨rfl,hb⟩)
   go_ret2
   exact ⟨iT hv.out.1.symm hv.out.2.symm,hw.out.trans (hb.mono (by omega))⟩
theorem uN {α:Type} [DecidableEq α] (l:List α) (a:α):decide (0≤bb l a)=decide (a∈l):=by
 unfold bb
 by_cases h:a∈l<;>simp [h]
theorem kU (A:Option Addr) (cap:Nat) (xs:List ByteArray) (n:ByteArray) (w:World) (h:Sl 1 iy w w.heap.size A xs):
  Calls prog 92 #[.slice A xs.length cap,.string n] w fun e w'=>e=.returned (.int .i64 (bb xs n))∧w=w':=by
 have hl:=h.len
 go_enter func92,ntmps92
 go_wp2
 go_loop [8] (fun i=>∃ k:Nat,k≤xs.length∧i=.int .i64 k∧n∉xs.take k) (fun i=>xs.length-(intOf i).toNat)
 case atStart=>exact ⟨0,Bo _,rfl,by simp⟩
 case round=>
  obtain ⟨k,hk,rfl,hc⟩:=hrel
  by_cases hlt:k<xs.length
  ·obtain ⟨b,o,rfl,hb,hcell,-⟩:=h.str hlt
   clear h
   by_cases he:xs[k]=n
   ·have ht:=gC he.symm
    have hv:=aa (ma hlt hc he)
    clear he
    go_wp2
    go_ret
    exact ⟨ag hv.out.symm,rfl⟩
   ·have ht:=gD (fun e=>he (Eq.symm e))
    have hv:=aa (dQ hlt hc he)
    clear he
    go_wp2
    go_round
    case rel=>exact ⟨k+1,by omega,by go_num,hv.out⟩
    case measure=>simp [intOf];omega
  ·have hv:=aa (mb (eN hk hlt hc))
   go_wp2
   go_ret
   exact ⟨ag hv.out.symm,rfl⟩
theorem mD (A:Option Addr) (cap:Nat) (xs:List ByteArray) (n:ByteArray) (w:World) (h:Sl 1 iy w w.heap.size A xs):
  Calls prog 160 #[.slice A xs.length cap,.string n] w fun e w'=>e=.returned (.bool (decide (n∈xs)))∧w=w':=by
 have hv:=aa (uN xs n)
 go_enter func160,ntmps160
 go_wp2_with (go_at_call 92;refine (kU _ _ _ _ _ h).mono ?_;rintro e w' ⟨rfl,rfl⟩)
 go_ret
 exact ⟨ah (hv.out.trans (by congr)),rfl⟩
def dn (l:List Fd):Int:=(l.map Prod.snd).sum
theorem mE {l:List Fd} {k:Nat} (hk:k<l.length):dn (l.take (k+1))=dn (l.take k)+l[k].2:=by
 unfold dn
 rw [BO hk,List.map_append,List.sum_append]
 simp
theorem gM:∀ {l:List Fd},(∀ f∈l,1≤f.2∧f.2≤128)→0≤dn l∧dn l≤128*l.length
 | [],_=>by simp [dn]
 |f::l,h=>by
  have h1:=h f BW
  have h2:=gM (l:=l) fun x hx=>h x (BT _ hx)
  simp only [dn,BF,List.sum_cons,By] at h2 ⊢
  omega
theorem xm (h:Hd) (A:Option Addr) (cap:Nat) (w:World) {B:Nat} (hB:B≤w.heap.size) (hF:Sl 2 sq w B A h.fields) (hm:iJ h=true):
  Calls prog 81 #[.agg #[.string h.name,.slice A h.fields.length cap]] w fun e w'=>e=.returned (.int .i64 (dO h))∧Below w.heap.size w w':=by
 obtain ⟨wb,hwb,hsz,hw,hcb,-⟩:=al w #[.string h.name,.slice A h.fields.length cap] 66
 have y0:wb.cell? ⟨w.heap.size,0,none⟩=some (.string h.name):=hcb 0
 have y1:wb.cell? ⟨w.heap.size,1,none⟩=some (.slice A h.fields.length cap):=hcb 1
 have hl:=hF.len
 have hS:=aa (hF.below bA (hw.mono hB))
 simp only [iJ,Bn,decide_eq_true_eq] at hm
 have hle:=hm.1.2.2
 have hws:∀ f∈h.fields,1≤f.2∧f.2≤128:=fun f hf=>by
  have:=Bw.1 hm.2 f hf
  simp only [gB,cE,Bn,decide_eq_true_eq] at this
  exact this.2
 have hsum:∀ k,0≤dn (h.fields.take k)∧dn (h.fields.take k)≤2048:=fun k=>by
  have:=gM (l:=h.fields.take k) fun f hf=>hws f (List.mem_of_mem_take hf)
  rw [List.length_take] at this
  omega
 have hws':=aa hws
 have hsum':=aa hsum
 have hv:=aa (show dO h=dn h.fields from rfl)
 replace hw:=aa hw
 clear hcb hm hws hsum hF
 go_enter func81,ntmps81
 go_wp2
 go_loopw [2,8] (fun n i wr=>∃ k:Nat,k≤h.fields.length∧i=.int .i64 k∧n=.int .i64 (dn (h.fields.take k))∧Hid (Below (w.heap.size+1) wb wr)∧w.heap.size+1≤wr.heap.size) (fun _ i _=>h.fields.length-(intOf i).toNat)
 case atStart=>exact ⟨0,Bo _,rfl,by simp [dn],aa (Bi _ _),by omega⟩
 case round=>
  obtain ⟨k,hk,rfl,rfl,hbr,hzr⟩:=hrel
  have hc:=ab hbr.out
  by_cases hlt:k<h.fields.length
  ·obtain ⟨b,o,ecs,hA,hb,hel,hcell,rfl,hz,hi⟩:=hS.out.2 k _ (Bk hlt)
   subst hA
   have hltz:(k:Int)<(h.fields.length:Int):=by omega
   have x0:wb.cell? ⟨b,o+k*2,none⟩=some (.string h.fields[k].1):=by simpa using hcell 0 _ rfl
   have x1:wb.cell? ⟨b,o+k*2+1,none⟩=some (.int .i64 h.fields[k].2):=hcell 1 _ rfl
   have ht:=aa (mE hlt)
   obtain ⟨s1,s2⟩:=hsum'.out k
   obtain ⟨t1,t2⟩:=hws'.out _ (Bv hlt)
   obtain ⟨wf,hwf,hzf,hbf,hcf,-⟩:=al wr #[.string h.fields[k].1,.int .i64 h.fields[k].2] 84
   have f0:wf.cell? ⟨wr.heap.size,0,none⟩=some (.string h.fields[k].1):=hcf 0
   have f1:wf.cell? ⟨wr.heap.size,1,none⟩=some (.int .i64 h.fields[k].2):=hcf 1
   replace hbf:=aa (hbr.out.trans (hbf.mono hzr))
   have hb':b<w.heap.size+1:=by omega
   clear hcell hcf
   generalize dn (h.fields.take k)=z at*
   go_wp2
   go_roundw
   case rel=>exact ⟨k+1,by omega,by go_num,by rw [ht.out],hbf,by omega⟩
   case measure=>simp [intOf];omega
  ·go_wp2
   go_ret
   rw [hv.out,BB (by omega)]
   exact ⟨rfl,hw.out.trans (hbr.out.mono (Nat.le_succ _))⟩
theorem mF (b:Bool) (n:Int) (w:World):Calls prog 80 #[.bool b,.int .i64 n] w fun e w'=>e=.returned (.int .i64 (cF b n))∧w=w':=by
 go_enter func80,ntmps80
 cases b<;>(go_wp2;go_ret;exact ⟨rfl,rfl⟩)
theorem sK (e f:Int) (w:World):Calls prog 82 #[.int .i64 e,.int .i64 f] w fun r w'=>r=.returned (.int .i64 (aQ e f))∧w=w':=by
 go_enter func82,ntmps82
 by_cases h:e=0
 ·have hv:=aa (show aQ e f=f from by simp [aQ,h])
  subst h
  go_wp2
  go_ret
  exact ⟨ag hv.out.symm,rfl⟩
 ·have hv:=aa (show aQ e f=e from by simp [aQ,h])
  go_wp2
  go_ret
  exact ⟨ag hv.out.symm,rfl⟩
end Go.Proofs.YtbbdhknagofghaaGreat

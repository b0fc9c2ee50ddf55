import Derived.Test.YtiebolhmdhdagaaGreatDoorEwp10
set_option linter.all false
set_option maxHeartbeats 8000000
set_option maxRecDepth 100000
open Go.Proofs.Tryz
namespace Go.Proofs.YtiebolhmdhdagaaGreatDoor
open _root_.Nat renaming lt_of_lt_of_le→He, le_refl→Hh, zero_le→Hm, lt_succ_self→HA, pow_le_pow_right→Ic
open _root_.Go.RowKit.Below renaming refl→Hf
open _root_.Bool renaming false_and→Hg, true_and→Hk
open _root_.Go.Calls renaming regrown_of→Hi
open _root_.List renaming getElem?_eq_getElem→Hn
open _root_.Option renaming bind_some→Hq
open _root_.Go.Sort renaming grow→Ht
open _root_.Int renaming eq_ofNat_of_zero_le→Hv, toNat_natCast→HG
open Go.RowKit
def Tryz.lays166_ren:Go.Shelf.Ren:=⟨fun|166=>31|240=>76|276=>133|n=>n,fun|0=>0|3=>3|4=>4|9=>9|20=>20|37=>73|70=>72|72=>75|75=>79|80=>83|164=>181|5=>5|n=>n,fun|n=>n⟩
theorem Tryz.lays166:Go.Proofs.Lays.n166 prog Tryz.lays166_ren:= {
 mixed:=by kernel_rfl
 f166:=func31.trans (congrArg some (by kernel_rfl))
 f240:=func76.trans (congrArg some (by kernel_rfl))
 f276:=func133.trans (congrArg some (by kernel_rfl))
 t0:=underlying0
 a0:=Tryz.isAgg0
 z0:=Tryz.sizeOf0
 v0:=Tryz.zeroValue0
 t3:=underlying3
 a3:=Tryz.isAgg3
 z3:=Tryz.sizeOf3
 v3:=Tryz.zeroValue3
 t4:=underlying4
 a4:=Tryz.isAgg4
 z4:=Tryz.sizeOf4
 v4:=Tryz.zeroValue4
 t9:=underlying9
 a9:=Tryz.isAgg9
 z9:=Tryz.sizeOf9
 v9:=Tryz.zeroValue9
 t20:=underlying20
 a20:=Tryz.isAgg20
 z20:=Tryz.sizeOf20
 v20:=Tryz.zeroValue20
 t37:=underlying73
 a37:=Tryz.isAgg73
 z37:=Tryz.sizeOf73
 v37:=Tryz.zeroValue73
 t70:=underlying72
 a70:=Tryz.isAgg72
 z70:=Tryz.sizeOf72
 v70:=Tryz.zeroValue72
 t72:=underlying75
 a72:=Tryz.isAgg75
 z72:=Tryz.sizeOf75
 v72:=Tryz.zeroValue75
 t75:=underlying79
 a75:=Tryz.isAgg79
 z75:=Tryz.sizeOf79
 v75:=Tryz.zeroValue79
 t164:=underlying181
 a164:=Tryz.isAgg181
 z164:=Tryz.sizeOf181
 v164:=Tryz.zeroValue181}
theorem Tryz.Builder_Extra_166:Builder.Extra prog Tryz.lays166_ren:= {
 sizeBuilder:=by kernel_rfl
 liesBuilder:=by kernel_rfl
 t5:=underlying5
 a5:=Tryz.isAgg5
 z5:=Tryz.sizeOf5
 v5:=Tryz.zeroValue5
 infoByte:=by kernel_rfl
 cellsByte:=by kernel_rfl
 sizeByte:=by kernel_rfl
 neB5:=by decide}
def DY (W:World) (b:Nat) (l:List UInt8):Prop:=Go.Lib.IsBuilder 75 5 b b (Go.Lib.byteCells l) W
theorem C5 (b:Nat) (l:List UInt8) (s:ByteArray) (w:World) (h:DY w b l) (hlen:l.length+s.size≤140737488355328) (hb:b≤w.heap.size):
  Calls prog 31 #[.pointer (some ⟨b,0,none⟩),.string s] w fun e w'=>e=.returned (.tuple #[.int .i64 s.size,.nilIface])∧DY w' b (l++s.data.toList)∧Below b w w':=
 (Any.Builder_WriteString Tryz.lays166 Tryz.Builder_Extra_166 b b (Go.Lib.byteCells l) s w h (by simpa [Go.Lib.byteCells] using hlen) hb).mono fun e w' h=>⟨h.1,.inr (by
  have:=h.2.1
  rw [show Go.Lib.byteCells l++Go.Lib.strCells s=Go.Lib.byteCells (l++s.data.toList) from by simp [Go.Lib.byteCells,Go.Lib.strCells]] at this
  exact this),h.2.2⟩
theorem AY (b:Nat) (l:List UInt8) (w:World) (h:DY w b l) (hb:b≤w.heap.size):
  Calls prog 33 #[.pointer (some ⟨b,0,none⟩)] w fun e w'=>e=.returned (.string ⟨l.toArray⟩)∧Below b w w':=Tryz.Builder_String_any b b l w h hb
def jD (w:World):Prop:=Go.Lib.TabIs prog w "internal/strconv.uint64pow10" .u64 Go.Lib.pow10Tab
theorem jD.below {w w':World} (h:jD w) (hb:Below w.heap.size w w') (hl:3<w.heap.size):jD w':=by
 unfold jD Go.Lib.TabIs at*
 rw [←h]
 unfold World.var?
 rw [show prog.globalNamed "internal/strconv.uint64pow10" =some 3 from by kernel_rfl]
 simp only [Hq]
 rw [hb.block _ hl]
theorem AZ (n:Int) (w:World) (h0:0≤n) (h1:n≤9223372036854775807) (hp:jD w):
  Calls prog 80 #[.int .i64 n] w fun e w'=>e=.returned (.string ⟨(Go.Lib.itoa n).toArray⟩)∧Below w.heap.size w w':=
 (Tryz.strconv_Itoa n (by omega) (by omega) w hp).mono fun e w' h=>⟨h.1,by
  obtain ⟨k,os,hk⟩:=h.2
  rw [hk]
  exact below_regrown w (w.drawn+k) os⟩
section
open Go.RowKit Go.Lib
attribute [local go_sem ↓] cU
theorem gp (a b:List UInt8):(⟨a.toArray⟩:ByteArray)++(⟨b.toArray⟩:ByteArray)=⟨(a++b).toArray⟩:=by
 apply ByteArray.ext
 rw [ByteArray.data_append]
 simp
theorem Ba (n:Nat) (h:n<10) (w:World):(convert 73 9 (.slice (some ⟨w.heap.size,0,none⟩) 1 1)).run prog (w.alloc (.cells #[.int .u8 (48+(n:Int))] 5))=.ok (.string ⟨(decDigits n).toArray⟩) (w.alloc (.cells #[.int .u8 (48+(n:Int))] 5)):=by
 have hcc:48+(n:Int)=((UInt8.ofNat (48+n)).toNat:Int):=by
  have:∀ x:Fin 10,48+((x.val:Nat):Int)=((UInt8.ofNat (48+x.val)).toNat:Int):=by decide
  exact this ⟨n,h⟩
 have hd:lM (w.alloc (.cells #[.int .u8 ((UInt8.ofNat (48+n)).toNat:Int)] 5)) w.heap.size (.slice (some ⟨w.heap.size,0,none⟩) 1 1) [UInt8.ofNat (48+n)]:=
  ⟨by simp,.inr ⟨w.heap.size,1,#[.int .u8 ((UInt8.ofNat (48+n)).toNat:Int)],rfl,Hh _,heap_alloc_new w _,by simp,by decide,rfl,by simp [DX]⟩⟩
 rw [hcc]
 have:=qR hd (by simp)
 rw [this,decDigits,dif_pos h]
theorem uD:∀ (m n:Nat) (w:World),n<m→n<18446744073709551616→Calls prog 138 #[.int .u64 (n:Int)] w fun e w'=>e=.returned (.string ⟨(decDigits n).toArray⟩)∧Below w.heap.size w w':=by
 intro m
 induction m with
 |zero=>intro n w h;omega
 |succ m ih=>
  intro n w hm hn
  have hb:=aa (show Below w.heap.size w (w.alloc (.cells #[.int .u8 (48+(n:Int))] 5)) from (Hf _ _).alloc (Hh _) _)
  by_cases h10:n<10
  ·have d1:decide ((n:Int)<10)=true:=decide_eq_true (by omega)
   have e1:IntKind.u64.wrap (48+(n:Int))=48+(n:Int):=by rw [IntKind.wrap_u64];omega
   have e2:IntKind.u8.wrap (48+(n:Int))=48+(n:Int):=by rw [IntKind.wrap_u8];omega
   have hcv:=Ba n h10 w
   clear ih
   go_enter func138,ntmps138
   go_wp2
   go_ret
   exact ⟨rfl,hb.out⟩
  ·have d1:decide ((n:Int)<10)=false:=decide_eq_false (by omega)
   have i1:=aa (fun W=>ih (n / 10) W (by omega) (by omega))
   have i2:=aa (fun W=>ih (n % 10) W (by omega) (by omega))
   have q1:((n / 10:Nat):Int)=(n:Int) / 10:=by omega
   have q2:((n % 10:Nat):Int)=(n:Int) % 10:=by omega
   rw [q1] at i1
   rw [q2] at i2
   have hde:decDigits n=decDigits (n / 10)++decDigits (n % 10):=by
    rw [decDigits,dif_neg h10]
    congr 1
    rw [decDigits,dif_pos (by omega)]
   rw [hde]
   have hln:¬9223372036854775807<(decDigits (n / 10)).length+(decDigits (n % 10)).length:=by
    have a1:=jC 19 (n / 10) (by omega)
    have a2:=jC 19 (n % 10) (by omega)
    omega
   clear ih q1 q2 hde
   go_enter func138,ntmps138
   go_wp2_with (first|(go_at_call 138;(with_reducible refine (i1.out _).mono ?_);rintro e w1 ⟨rfl,hb1⟩)|(go_at_call 138;(with_reducible refine (i2.out _).mono ?_);rintro e w2 ⟨rfl,hb2⟩))
   go_ret
   exact ⟨by rw [gp];rfl,hb1.trans (hb2.mono hb1.size)⟩
theorem wh (n:Nat) (w:World) (h:n<9223372036854775808):Calls prog 85 #[.int .i64 (n:Int)] w fun e w'=>e=.returned (.string ⟨(decDigits n).toArray⟩)∧Below w.heap.size w w':=by
 have i1:=aa (fun W=>uD (n+1) n W (HA _) (by omega))
 have d1:decide ((n:Int)<0)=false:=decide_eq_false (by omega)
 have e1:IntKind.u64.wrap (n:Int)=(n:Int):=by rw [IntKind.wrap_u64];omega
 go_enter func85,ntmps85
 go_wp2_with (go_at_call 138;refine (i1.out _).mono ?_;rintro e w1 ⟨rfl,hb1⟩)
 go_ret
 exact ⟨rfl,hb1⟩
end
theorem uE (x:Pt) (y:Int) (w:World) (hx:aI x.vh∧aI x.vl∧aI x.mh∧aI x.ml):Calls prog 108 #[.agg #[.int .u64 x.vh,.int .u64 x.vl,.int .u64 x.mh,.int .u64 x.ml],.int .i64 y] w fun e w'=>e=.returned (.bool (ef x y))∧Below w.heap.size w w':=by
 obtain ⟨vh,vl,mh,ml⟩:=x
 simp only at hx ⊢
 obtain ⟨wa,hwa,hsa,hba,hca,-⟩:=ak w #[.int .u64 vh,.int .u64 vl,.int .u64 mh,.int .u64 ml] 63
 have x0:wa.cell? ⟨w.heap.size,0,none⟩=some (.int .u64 vh):=hca 0
 have x1:wa.cell? ⟨w.heap.size,1,none⟩=some (.int .u64 vl):=hca 1
 have x2:wa.cell? ⟨w.heap.size,2,none⟩=some (.int .u64 mh):=hca 2
 have x3:wa.cell? ⟨w.heap.size,3,none⟩=some (.int .u64 ml):=hca 3
 have hlt:w.heap.size<wa.heap.size:=by omega
 have hF:∀ d os,Hid (Calls prog 115 #[.agg #[.int .u64 vh,.int .u64 vl],.int .i64 y] (Ht (redrawn wa d) os) _):=fun d os=>aa (cL vh vl y _ ⟨hx.1,hx.2.1⟩)
 have hH:∀ d os,Hid (Calls prog 115 #[.agg #[.int .u64 mh,.int .u64 ml],.int .i64 y] (Ht (redrawn wa d) os) _):=fun d os=>aa (cL mh ml y _ ⟨hx.2.2.1,hx.2.2.2⟩)
 have hA:∀ d os,Hid (Calls prog 120 #[.agg #[.int .u64 vh,.int .u64 vl],.agg #[.int .u64 mh,.int .u64 ml]] (Ht (redrawn wa d) os) _):=fun d os=>aa (lU vh vl mh ml _)
 have hv:=aa (show ef ⟨vh,vl,mh,ml⟩ y=(bN y vh vl&&bN y mh ml&&(decide (aJ vh mh=vh)&&decide (aJ vl ml=vl))) from rfl)
 have hg:=aE (show Below wa.heap.size wa wa from Hf _ _) (Hh _)
 have hfin:=aa (fun w1 (h:Below wa.heap.size wa w1)=>hba.trans (h.mono (show w.heap.size≤wa.heap.size by omega)))
 replace hsa:=aa hsa
 clear hca hba hx
 generalize bN y vh vl=F at hF hv
 generalize bN y mh ml=H at hH hv
 generalize aJ vh mh=a at hA hv
 generalize aJ vl ml=b at hA hv
 cases F with
 |false=>
  rw [Hg,Hg] at hv
  go_enter func108,ntmps108
  go_wp2_with fail
  refine bV ?_
  repeat (any_goals (first|go_big_quiet_step ((go_at_call 115;with_reducible exact Hi (hF _ _).out))|quiet_step ((go_at_call 115;with_reducible exact Hi (hF _ _).out))))
  refine wpQuiet_nil ?_
  intro w1 hw1
  replace hw1:=ac hw1
  go_wp2
  go_ret
  exact ⟨ad hv.out.symm,hfin.out _ hw1⟩
 |true=>
  cases H with
  |false=>
   rw [Hk,Hg] at hv
   go_enter func108,ntmps108
   go_wp2_with fail
   refine bV ?_
   repeat (any_goals (first|go_big_quiet_step (first|(go_at_call 115;with_reducible exact Hi (hF _ _).out)|(go_at_call 115;with_reducible exact Hi (hH _ _).out))|quiet_step (first|(go_at_call 115;with_reducible exact Hi (hF _ _).out)|(go_at_call 115;with_reducible exact Hi (hH _ _).out))))
   refine wpQuiet_nil ?_
   intro w1 hw1
   replace hw1:=ac hw1
   go_wp2
   go_ret
   exact ⟨ad hv.out.symm,hfin.out _ hw1⟩
  |true=>
   rw [Hk,Hk] at hv
   by_cases e1:a=vh
   ·subst e1
    by_cases e2:b=vl
    ·subst e2
     go_enter func108,ntmps108
     go_wp2_with fail
     refine bV ?_
     repeat (any_goals (first|go_big_quiet_step (first|(go_at_call 115;with_reducible exact Hi (hF _ _).out)|(go_at_call 115;with_reducible exact Hi (hH _ _).out)|(go_at_call 120;with_reducible exact Hi (hA _ _).out))|quiet_step (first|(go_at_call 115;with_reducible exact Hi (hF _ _).out)|(go_at_call 115;with_reducible exact Hi (hH _ _).out)|(go_at_call 120;with_reducible exact Hi (hA _ _).out))))
     refine wpQuiet_nil ?_
     intro w1 hw1
     replace hw1:=ac hw1
     go_wp2
     go_ret
     exact ⟨ad (by rw [hv.out];simp),hfin.out _ hw1⟩
    ·have e3:(b==vl)=false:=beq_eq_false_iff_ne.2 e2
     replace e2:=aa e2
     go_enter func108,ntmps108
     go_wp2_with fail
     refine bV ?_
     repeat (any_goals (first|go_big_quiet_step (first|(go_at_call 115;with_reducible exact Hi (hF _ _).out)|(go_at_call 115;with_reducible exact Hi (hH _ _).out)|(go_at_call 120;with_reducible exact Hi (hA _ _).out))|quiet_step (first|(go_at_call 115;with_reducible exact Hi (hF _ _).out)|(go_at_call 115;with_reducible exact Hi (hH _ _).out)|(go_at_call 120;with_reducible exact Hi (hA _ _).out))))
     refine wpQuiet_nil ?_
     intro w1 hw1
     replace hw1:=ac hw1
     go_wp2
     go_ret
     exact ⟨ad (by rw [hv.out];simp [e2.out]),hfin.out _ hw1⟩
   ·have e3:(a==vh)=false:=beq_eq_false_iff_ne.2 e1
    replace e1:=aa e1
    go_enter func108,ntmps108
    go_wp2_with fail
    refine bV ?_
    repeat (any_goals (first|go_big_quiet_step (first|(go_at_call 115;with_reducible exact Hi (hF _ _).out)|(go_at_call 115;with_reducible exact Hi (hH _ _).out)|(go_at_call 120;with_reducible exact Hi (hA _ _).out))|quiet_step (first|(go_at_call 115;with_reducible exact Hi (hF _ _).out)|(go_at_call 115;with_reducible exact Hi (hH _ _).out)|(go_at_call 120;with_reducible exact Hi (hA _ _).out))))
    refine wpQuiet_nil ?_
    intro w1 hw1
    replace hw1:=ac hw1
    go_wp2
    go_ret
    exact ⟨ad (by rw [hv.out];simp [e1.out]),hfin.out _ hw1⟩
theorem xU (A A':Option Addr) (cap cap':Nat) (xs:List (Pt)) (ys:List Int) (w:World) (h:Sl 4 mR w w.heap.size A xs) (h':Sl 1 bd w w.heap.size A' ys):
  Calls prog 107 #[.slice A xs.length cap,.slice A' ys.length cap',.func (.func 108) #[] #[]] w fun e w'=>e=.returned (.bool (ci ef xs ys))∧Below w.heap.size w w':=by
 have hl:=h.len
 have hl':=h'.len
 have eg:∀ args w,(callFunc 108 args).run prog w=.ok (.enter 108 args) w:=enters_of func108 (by kernel_rfl) rfl
 go_enter func107,ntmps107
 by_cases he:xs.length=ys.length
 ·have hez:((xs.length:Int) !=(ys.length:Int))=false:=by rw [he];exact bne_self_eq_false _
  have hv:=aa (show ci ef xs ys=am (fun i=>aK (fun x=>aK (ef x) ys i) xs i) xs.length from by unfold ci;rw [decide_eq_true he,Hk])
  replace he:=aa he
  go_wp2
  go_loopw [7,8,9,17] (fun _ _ _ i wr=>∃ k:Nat,k≤xs.length∧i=.int .i64 k∧Hid (am (fun i=>aK (fun x=>aK (ef x) ys i) xs i) k=true)∧Hid (Below w.heap.size w wr)) (fun _ _ _ i _=>xs.length-(intOf i).toNat)
  case atStart=>exact ⟨0,Hm _,rfl,aa rfl,aa (Hf _ _)⟩
  case round=>
   obtain ⟨k,hk,rfl,hc,hbr⟩:=hrel
   by_cases hlt:k<xs.length
   ·have hlt':k<ys.length:=by have:=he.out;omega
    have hkz:(k:Int)<(xs.length:Int):=by omega
    have hkz':(k:Int)<(ys.length:Int):=by omega
    obtain ⟨b,o,ecs,rfl,hb,hn,hcell,rfl,hy⟩:=h.2 k _ (Hn hlt)
    obtain ⟨b',o',rfl,hb',hc'⟩:=h'.int hlt'
    have hcw:=fun j u hu=>(hbr.out.cell (p:=⟨b,o+k*4+j,none⟩) hb).trans (hcell j u hu)
    have yc:=(hbr.out.cell (p:=⟨b',o'+k,none⟩) hb').trans hc'
    have hstep:am (fun i=>aK (fun x=>aK (ef x) ys i) xs i) (k+1)=ef xs[k] ys[k]:=by
     rw [am,hc.out,Hk,ag _ hlt,ag _ hlt']
    have hwr:=hbr.out.size
    clear h h' hcell hc
    generalize hxk:xs[k]=x at*
    generalize hyk:ys[k]=y at*
    have x0:wr.cell? ⟨b,o+k*4,none⟩=some (.int .u64 x.vh):=by simpa using hcw 0 _ rfl
    have x1:wr.cell? ⟨b,o+k*4+1,none⟩=some (.int .u64 x.vl):=hcw 1 _ rfl
    have x2:wr.cell? ⟨b,o+k*4+2,none⟩=some (.int .u64 x.mh):=hcw 2 _ rfl
    have x3:wr.cell? ⟨b,o+k*4+3,none⟩=some (.int .u64 x.ml):=hcw 3 _ rfl
    obtain ⟨wn,hwn,hsn,hbn,hcn,-⟩:=ak wr #[.int .u64 x.vh,.int .u64 x.vl,.int .u64 x.mh,.int .u64 x.ml] 63
    have m0:wn.cell? ⟨wr.heap.size,0,none⟩=some (.int .u64 x.vh):=hcn 0
    have m1:wn.cell? ⟨wr.heap.size,1,none⟩=some (.int .u64 x.vl):=hcn 1
    have m2:wn.cell? ⟨wr.heap.size,2,none⟩=some (.int .u64 x.mh):=hcn 2
    have m3:wn.cell? ⟨wr.heap.size,3,none⟩=some (.int .u64 x.ml):=hcn 3
    have ycn:=(hbn.cell (p:=⟨b',o'+k,none⟩) (He hb' hwr)).trans yc
    have hK:=uE x y wn hy
    have hlo:=aa (fun (g:ef x y=false)=>show am (fun i=>aK (fun x=>aK (ef x) ys i) xs i) xs.length=false from aN hlt (by rw [ag _ hlt,ag _ hlt',hxk,hyk];exact g))
    have hbw:=aa (hbr.out.trans (hbn.mono hwr))
    have hwn2:wr.heap.size<wn.heap.size:=by omega
    replace hsn:=aa hsn
    replace hstep:=aa hstep
    clear hcn hbn hbr hcw
    generalize ef x y=F at hK hstep hlo
    replace hK:=aa hK
    cases F with
    |false=>
     replace hlo:=aa (hlo.out rfl)
     go_wp2_with (go_at_fn 108;refine hK.out.mono ?_;rintro e w3 ⟨rfl,hb3⟩)
     go_ret
     exact ⟨ad (by rw [hv.out,hlo.out]),hbw.out.trans (hb3.mono (by have:=hbw.out.size;omega))⟩
    |true=>
     go_wp2_with (go_at_fn 108;refine hK.out.mono ?_;rintro e w3 ⟨rfl,hb3⟩)
     go_roundw
     case rel=>exact ⟨k+1,by omega,by go_num,hstep,aa (hbw.out.trans (hb3.mono (by have:=hbw.out.size;omega)))⟩
     case measure=>simp [intOf];omega
   ·have hke:k=xs.length:=by omega
    subst hke
    go_wp2
    go_ret
    exact ⟨ad (by rw [hv.out,hc.out]),hbr.out⟩
 ·have hez:((xs.length:Int) !=(ys.length:Int))=true:=by rw [bne_iff_ne];omega
  have hv:=aa (show ci ef xs ys=false from by unfold ci;rw [decide_eq_false he,Hg])
  clear h h'
  go_wp2
  go_ret
  exact ⟨ad hv.out.symm,Hf _ _⟩
theorem EF (a b z mh ml:Int) (k:Nat) (w:World) (hk:k<64) (hCt:∀ W,Calls prog 158 #[.agg #[.int .u64 (bits .or .u64 (IntKind.u64.wrap (a*2 ^ k)) (b / 2 ^ (64-k))),.int .u64 (IntKind.u64.wrap (b*2 ^ k))],.int .i64 z] W fun e w'=>e=.returned (.agg #[.int .u64 mh,.int .u64 ml])∧Below W.heap.size W w'):
  Calls prog 161 #[.agg #[.int .u64 a,.int .u64 b],.int .i64 (k:Int),.int .i64 z] w fun e w'=>e=.returned (.agg #[.int .u64 mh,.int .u64 ml])∧Below w.heap.size w w':=by
 obtain ⟨wa,hwa,hsa,hba,hca,-⟩:=ak w #[.int .u64 a,.int .u64 b] 61
 obtain ⟨wc,hwc,hsc,hbc,hcc,hfc⟩:=ak wa #[.int .u64 0,.int .u64 0] 61
 have hw:=hba.trans (hbc.mono (by omega))
 have x0:wc.cell? ⟨w.heap.size,0,none⟩=some (.int .u64 a):=(bH hbc w.heap.size 0 (by omega)).trans (hca 0)
 have x1:wc.cell? ⟨w.heap.size,1,none⟩=some (.int .u64 b):=(bH hbc w.heap.size 1 (by omega)).trans (hca 1)
 simp only [hsa] at hcc hfc
 have z0:wc.cell? ⟨w.heap.size+1,0,none⟩=some (.int .u64 0):=hcc 0
 have z1:wc.cell? ⟨w.heap.size+1,1,none⟩=some (.int .u64 0):=hcc 1
 have hk2:w.heap.size<wc.heap.size:=by omega
 have hk3:w.heap.size+1<wc.heap.size:=by omega
 have hC:=aa hCt
 replace hw:=aa hw
 replace hsc:=aa hsc
 clear hca hcc hba hbc hCt
 go_enter func161,ntmps161
 go_wp2_with (first|(go_at_call 186;refine (il _ _ (by omega) (by omega)).mono ?_;rintro e w' ⟨rfl,rfl⟩)|(go_at_call 158;refine (hC.out _).mono ?_;rintro e w1 ⟨rfl,hb⟩;have v0:w1.cell? ⟨w.heap.size+1,0,none⟩=some (.int .u64 0):=(hb.cell (p:=⟨w.heap.size+1,0,none⟩) hk3).trans z0;have v1:w1.cell? ⟨w.heap.size+1,1,none⟩=some (.int .u64 0):=(hb.cell (p:=⟨w.heap.size+1,1,none⟩) hk3).trans z1;have t0:w1.frozen? ⟨w.heap.size+1,0,none⟩=false:=(hb.frozen (p:=⟨w.heap.size+1,0,none⟩) hk3).trans (hfc 0);have t1:w1.frozen? ⟨w.heap.size+1,1,none⟩=false:=(hb.frozen (p:=⟨w.heap.size+1,1,none⟩) hk3).trans (hfc 1);have k1:w.heap.size+1<w1.heap.size:=He hk3 hb.size;replace hb:=aa hb))
 all_goals refine bodyPost_ret (v:=.agg #[.int .u64 mh,.int .u64 ml]) (by simp [results,results161,go_sem,v0,v1,k1]) rfl ⟨rfl,((hw.out.trans (hb.out.mono (by omega))).setCell (by simp) _).setCell (by simp) _⟩
theorem EG (a b z mh ml:Int) (k:Nat) (w:World) (hk:k≤64) (hCt:∀ W,Calls prog 158 #[.agg #[.int .u64 (IntKind.u64.wrap (b*2 ^ k)),.int .u64 0],.int .i64 z] W fun e w'=>e=.returned (.agg #[.int .u64 mh,.int .u64 ml])∧Below W.heap.size W w'):
  Calls prog 161 #[.agg #[.int .u64 a,.int .u64 b],.int .i64 ((k:Int)+64),.int .i64 z] w fun e w'=>e=.returned (.agg #[.int .u64 mh,.int .u64 ml])∧Below w.heap.size w w':=by
 obtain ⟨wa,hwa,hsa,hba,hca,-⟩:=ak w #[.int .u64 a,.int .u64 b] 61
 obtain ⟨wc,hwc,hsc,hbc,hcc,hfc⟩:=ak wa #[.int .u64 0,.int .u64 0] 61
 have hw:=hba.trans (hbc.mono (by omega))
 have x0:wc.cell? ⟨w.heap.size,0,none⟩=some (.int .u64 a):=(bH hbc w.heap.size 0 (by omega)).trans (hca 0)
 have x1:wc.cell? ⟨w.heap.size,1,none⟩=some (.int .u64 b):=(bH hbc w.heap.size 1 (by omega)).trans (hca 1)
 simp only [hsa] at hcc hfc
 have z0:wc.cell? ⟨w.heap.size+1,0,none⟩=some (.int .u64 0):=hcc 0
 have z1:wc.cell? ⟨w.heap.size+1,1,none⟩=some (.int .u64 0):=hcc 1
 have hk2:w.heap.size<wc.heap.size:=by omega
 have hk3:w.heap.size+1<wc.heap.size:=by omega
 have hC:=aa hCt
 replace hw:=aa hw
 replace hsc:=aa hsc
 clear hca hcc hba hbc hCt
 go_enter func161,ntmps161
 go_wp2_with (first|(go_at_call 186;refine (il _ _ (by omega) (by omega)).mono ?_;rintro e w' ⟨rfl,rfl⟩)|(go_at_call 158;refine (hC.out _).mono ?_;rintro e w1 ⟨rfl,hb⟩;have v0:w1.cell? ⟨w.heap.size+1,0,none⟩=some (.int .u64 0):=(hb.cell (p:=⟨w.heap.size+1,0,none⟩) hk3).trans z0;have v1:w1.cell? ⟨w.heap.size+1,1,none⟩=some (.int .u64 0):=(hb.cell (p:=⟨w.heap.size+1,1,none⟩) hk3).trans z1;have t0:w1.frozen? ⟨w.heap.size+1,0,none⟩=false:=(hb.frozen (p:=⟨w.heap.size+1,0,none⟩) hk3).trans (hfc 0);have t1:w1.frozen? ⟨w.heap.size+1,1,none⟩=false:=(hb.frozen (p:=⟨w.heap.size+1,1,none⟩) hk3).trans (hfc 1);have k1:w.heap.size+1<w1.heap.size:=He hk3 hb.size;replace hb:=aa hb))
 all_goals refine bodyPost_ret (v:=.agg #[.int .u64 mh,.int .u64 ml]) (by simp [results,results161,go_sem,v0,v1,k1]) rfl ⟨rfl,((hw.out.trans (hb.out.mono (by omega))).setCell (by simp) _).setCell (by simp) _⟩
theorem FR:∀ n:Fin 129,∀ k:Fin 64,n.val+k.val≤128→1≤n.val+k.val→aJ (bits .or .u64 (IntKind.u64.wrap (aX n.val*2 ^ k.val)) (aP n.val / 2 ^ (64-k.val))) (aX (n.val+k.val))=((dK n.val (n.val+k.val) / 18446744073709551616:Nat):Int)∧aJ (IntKind.u64.wrap (aP n.val*2 ^ k.val)) (aP (n.val+k.val))=((dK n.val (n.val+k.val) % 18446744073709551616:Nat):Int):=by decide+kernel
theorem Fj:∀ n:Fin 65,∀ k:Fin 65,n.val+k.val≤64→aJ (IntKind.u64.wrap (aP n.val*2 ^ k.val)) (aX (n.val+k.val+64))=((dK n.val (n.val+k.val+64) / 18446744073709551616:Nat):Int)∧aJ 0 (aP (n.val+k.val+64))=((dK n.val (n.val+k.val+64) % 18446744073709551616:Nat):Int):=by decide+kernel
theorem C6 {n:Nat} (h:n≤128):eN (n:Int)=n:=by unfold eN;split<;>omega
theorem Bb (n k:Nat) (W:World) (h:n+k≤128) (h1:1≤n+k):Calls prog 161 #[.agg #[.int .u64 (aX n),.int .u64 (aP n)],.int .i64 (k:Int),.int .i64 ((n+k:Nat):Int)] W fun e w'=>e=.returned (.agg #[.int .u64 ((dK n (n+k) / 18446744073709551616:Nat):Int),.int .u64 ((dK n (n+k) % 18446744073709551616:Nat):Int)])∧Below W.heap.size W w':=by
 by_cases hk:k<64
 ·obtain ⟨e1,e2⟩:=FR ⟨n,by omega⟩ ⟨k,hk⟩ h h1
  refine EF _ _ _ _ _ k W hk fun W=> ?_
  have:=vI (bits .or .u64 (IntKind.u64.wrap (aX n*2 ^ k)) (aP n / 2 ^ (64-k))) (IntKind.u64.wrap (aP n*2 ^ k)) (n+k) W h1 h
  rw [e1,e2] at this
  exact this
 ·obtain ⟨e1,e2⟩:=Fj ⟨n,by omega⟩ ⟨k-64,by omega⟩ (by show n+(k-64)≤64;omega)
  have ek:((k:Nat):Int)=((k-64:Nat):Int)+64:=by omega
  simp only [show n+(k-64)+64=n+k by omega] at e1 e2
  rw [ek]
  refine EG _ _ _ _ _ (k-64) W (by omega) fun W=> ?_
  have:=vI (IntKind.u64.wrap (aP n*2 ^ (k-64))) 0 (n+k) W h1 h
  rw [e1,e2] at this
  exact this
theorem sA (n v:Nat) (w:World) (hn:n≤v) (h1:1≤v) (h2:v≤128):Calls prog 118 #[.int .i64 (n:Int),.int .i64 (v:Int)] w fun e w'=>e=.returned (.agg #[.int .u64 ((dK n v / 18446744073709551616:Nat):Int),.int .u64 ((dK n v % 18446744073709551616:Nat):Int)])∧Below w.heap.size w w':=by
 obtain ⟨wc,hwc,hsc,hbc,hcc,hfc⟩:=ak w #[.int .u64 0,.int .u64 0] 61
 have z0:wc.cell? ⟨w.heap.size,0,none⟩=some (.int .u64 0):=hcc 0
 have z1:wc.cell? ⟨w.heap.size,1,none⟩=some (.int .u64 0):=hcc 1
 have hk3:w.heap.size<wc.heap.size:=by omega
 have hM:=aa (fun W=>mX (n:Int) W)
 rw [C6 (by omega)] at hM
 have hS:=aa (fun W=>Bb n (v-n) W (by omega) (by omega))
 rw [show n+(v-n)=v by omega,show ((v-n:Nat):Int)=(v:Int)-n by omega] at hS
 have hwr:IntKind.i64.wrap ((v:Int)-n)=(v:Int)-n:=by rw [IntKind.wrap_i64];omega
 replace hsc:=aa hsc
 replace hbc:=aa hbc
 clear hcc
 go_enter func118,ntmps118
 go_wp2_with (first|(go_at_call 162;refine (hM.out _).mono ?_;rintro e w1 ⟨rfl,hb⟩;have v0:w1.cell? ⟨w.heap.size,0,none⟩=some (.int .u64 0):=(hb.cell (p:=⟨w.heap.size,0,none⟩) hk3).trans z0;have v1:w1.cell? ⟨w.heap.size,1,none⟩=some (.int .u64 0):=(hb.cell (p:=⟨w.heap.size,1,none⟩) hk3).trans z1;have t0:w1.frozen? ⟨w.heap.size,0,none⟩=false:=(hb.frozen (p:=⟨w.heap.size,0,none⟩) hk3).trans (hfc 0);have t1:w1.frozen? ⟨w.heap.size,1,none⟩=false:=(hb.frozen (p:=⟨w.heap.size,1,none⟩) hk3).trans (hfc 1);have k1:w.heap.size<w1.heap.size:=He hk3 hb.size;replace hb:=aa hb)|(go_at_call 161;refine (hS.out _).mono ?_;rintro e w2 ⟨rfl,hb2⟩;have v2:w2.cell? ⟨w.heap.size,0,none⟩=some (.int .u64 0):=(hb2.cell (p:=⟨w.heap.size,0,none⟩) k1).trans v0;have v3:w2.cell? ⟨w.heap.size,1,none⟩=some (.int .u64 0):=(hb2.cell (p:=⟨w.heap.size,1,none⟩) k1).trans v1;have t2:w2.frozen? ⟨w.heap.size,0,none⟩=false:=(hb2.frozen (p:=⟨w.heap.size,0,none⟩) k1).trans t0;have t3:w2.frozen? ⟨w.heap.size,1,none⟩=false:=(hb2.frozen (p:=⟨w.heap.size,1,none⟩) k1).trans t1;have k2:w.heap.size<w2.heap.size:=He k1 hb2.size;replace hb2:=aa hb2))
 all_goals
  refine bodyPost_ret (v:=.agg #[.int .u64 ((dK n v / 18446744073709551616:Nat):Int),.int .u64 ((dK n v % 18446744073709551616:Nat):Int)]) (by simp [results,results118,go_sem,v2,v3,k2]) rfl ⟨rfl,(((hbc.out.trans (hb.out.mono (by omega))).trans (hb2.out.mono (by omega))).setCell (by simp) _).setCell (by simp) _⟩
theorem nJ (z:Int) (w:World):Calls prog 119 #[.int .i64 z] w fun e w'=>e=.returned (.bool (aj z))∧Below w.heap.size w w':=by
 by_cases h1:1≤z
 focus
  by_cases h2:z≤128
  have hv:=aa (show aj z=true by rw [aA];exact ⟨h1,h2⟩)
  have d1:decide (1≤z)=true:=decide_eq_true h1
  have d2:decide (z≤128)=true:=decide_eq_true h2
  rotate_right
  have hv:=aa (show aj z=false by simp [aj,h2])
  have d1:decide (1≤z)=true:=decide_eq_true h1
  have d2:decide (z≤128)=false:=decide_eq_false h2
 rotate_right
 have hv:=aa (show aj z=false by simp [aj,h1])
 have d1:decide (1≤z)=false:=decide_eq_false h1
 all_goals
  go_enter func119,ntmps119
  go_wp2
  go_ret
  exact ⟨ad hv.out.symm,Hf _ _⟩
theorem sC (x:Pt) (y:Int) (w:World) (hx:em x):Calls prog 60 #[.agg #[.int .u64 x.vh,.int .u64 x.vl,.int .u64 x.mh,.int .u64 x.ml],.int .i64 y] w fun e w'=>e=.returned (.bool (el y x))∧Below w.heap.size w w':=by
 obtain ⟨vh,vl,mh,ml⟩:=x
 unfold em at hx
 simp only at hx ⊢
 obtain ⟨wa,hwa,hsa,hba,hca,-⟩:=ak w #[.int .u64 vh,.int .u64 vl,.int .u64 mh,.int .u64 ml] 63
 have x0:wa.cell? ⟨w.heap.size,0,none⟩=some (.int .u64 vh):=hca 0
 have x1:wa.cell? ⟨w.heap.size,1,none⟩=some (.int .u64 vl):=hca 1
 have x2:wa.cell? ⟨w.heap.size,2,none⟩=some (.int .u64 mh):=hca 2
 have x3:wa.cell? ⟨w.heap.size,3,none⟩=some (.int .u64 ml):=hca 3
 have hlt:w.heap.size<wa.heap.size:=by omega
 have hW:∀ d os,Hid (Calls prog 119 #[.int .i64 y] (Ht (redrawn wa d) os) _):=fun d os=>aa (nJ y _)
 have hF:∀ d os,Hid (Calls prog 115 #[.agg #[.int .u64 vh,.int .u64 vl],.int .i64 y] (Ht (redrawn wa d) os) _):=fun d os=>aa (cL vh vl y _ ⟨hx.1,hx.2.1⟩)
 have hH:∀ d os,Hid (Calls prog 115 #[.agg #[.int .u64 mh,.int .u64 ml],.int .i64 y] (Ht (redrawn wa d) os) _):=fun d os=>aa (cL mh ml y _ ⟨hx.2.2.1,hx.2.2.2⟩)
 have hA:∀ d os,Hid (Calls prog 120 #[.agg #[.int .u64 vh,.int .u64 vl],.agg #[.int .u64 mh,.int .u64 ml]] (Ht (redrawn wa d) os) _):=fun d os=>aa (lU vh vl mh ml _)
 have hv:=aa (show el y ⟨vh,vl,mh,ml⟩=(aj y&&(bN y vh vl&&(bN y mh ml&&(decide (aJ vh mh=vh)&&decide (aJ vl ml=vl))))) from rfl)
 have hg:=aE (show Below wa.heap.size wa wa from Hf _ _) (Hh _)
 have hfin:=aa (fun w1 (h:Below wa.heap.size wa w1)=>hba.trans (h.mono (show w.heap.size≤wa.heap.size by omega)))
 replace hsa:=aa hsa
 clear hca hba hx
 generalize aj y=G at hW hv
 generalize bN y vh vl=F at hF hv
 generalize bN y mh ml=H at hH hv
 generalize aJ vh mh=a at hA hv
 generalize aJ vl ml=b at hA hv
 cases G with
 |false=>
  rw [Hg] at hv
  go_enter func60,ntmps60
  go_wp2_with fail
  refine bV ?_
  repeat (any_goals (first|go_big_quiet_step ((go_at_call 119;with_reducible exact Hi (hW _ _).out))|quiet_step ((go_at_call 119;with_reducible exact Hi (hW _ _).out))))
  refine wpQuiet_nil ?_
  intro w1 hw1
  replace hw1:=ac hw1
  go_wp2
  go_ret
  exact ⟨ad (hv.out.symm),hfin.out _ hw1⟩
 |true=>
  rw [Hk] at hv
  cases F with
  |false=>
   rw [Hg] at hv
   go_enter func60,ntmps60
   go_wp2_with fail
   refine bV ?_
   repeat (any_goals (first|go_big_quiet_step (first|(go_at_call 119;with_reducible exact Hi (hW _ _).out)|(go_at_call 115;with_reducible exact Hi (hF _ _).out))|quiet_step (first|(go_at_call 119;with_reducible exact Hi (hW _ _).out)|(go_at_call 115;with_reducible exact Hi (hF _ _).out))))
   refine wpQuiet_nil ?_
   intro w1 hw1
   replace hw1:=ac hw1
   go_wp2
   go_ret
   exact ⟨ad (hv.out.symm),hfin.out _ hw1⟩
  |true=>
   rw [Hk] at hv
   cases H with
   |false=>
    rw [Hg] at hv
    go_enter func60,ntmps60
    go_wp2_with fail
    refine bV ?_
    repeat (any_goals (first|go_big_quiet_step (first|(go_at_call 119;with_reducible exact Hi (hW _ _).out)|(go_at_call 115;with_reducible exact Hi (hF _ _).out)|(go_at_call 115;with_reducible exact Hi (hH _ _).out))|quiet_step (first|(go_at_call 119;with_reducible exact Hi (hW _ _).out)|(go_at_call 115;with_reducible exact Hi (hF _ _).out)|(go_at_call 115;with_reducible exact Hi (hH _ _).out))))
    refine wpQuiet_nil ?_
    intro w1 hw1
    replace hw1:=ac hw1
    go_wp2
    go_ret
    exact ⟨ad (hv.out.symm),hfin.out _ hw1⟩
   |true=>
    rw [Hk] at hv
    by_cases e1:a=vh
    ·subst e1
     by_cases e2:b=vl
     ·subst e2
      go_enter func60,ntmps60
      go_wp2_with fail
      refine bV ?_
      repeat (any_goals (first|go_big_quiet_step (first|(go_at_call 119;with_reducible exact Hi (hW _ _).out)|(go_at_call 115;with_reducible exact Hi (hF _ _).out)|(go_at_call 115;with_reducible exact Hi (hH _ _).out)|(go_at_call 120;with_reducible exact Hi (hA _ _).out))|quiet_step (first|(go_at_call 119;with_reducible exact Hi (hW _ _).out)|(go_at_call 115;with_reducible exact Hi (hF _ _).out)|(go_at_call 115;with_reducible exact Hi (hH _ _).out)|(go_at_call 120;with_reducible exact Hi (hA _ _).out))))
      refine wpQuiet_nil ?_
      intro w1 hw1
      replace hw1:=ac hw1
      go_wp2
      go_ret
      exact ⟨ad (by rw [hv.out];simp),hfin.out _ hw1⟩
     ·have e3:(vl==b)=false:=beq_eq_false_iff_ne.2 (fun e=>e2 e.symm)
      have e4:(vl=b)=False:=eq_false (fun e=>e2 e.symm)
      replace e2:=aa e2
      go_enter func60,ntmps60
      go_wp2_with fail
      refine bV ?_
      repeat (any_goals (first|go_big_quiet_step (first|(go_at_call 119;with_reducible exact Hi (hW _ _).out)|(go_at_call 115;with_reducible exact Hi (hF _ _).out)|(go_at_call 115;with_reducible exact Hi (hH _ _).out)|(go_at_call 120;with_reducible exact Hi (hA _ _).out))|quiet_step (first|(go_at_call 119;with_reducible exact Hi (hW _ _).out)|(go_at_call 115;with_reducible exact Hi (hF _ _).out)|(go_at_call 115;with_reducible exact Hi (hH _ _).out)|(go_at_call 120;with_reducible exact Hi (hA _ _).out))))
      refine wpQuiet_nil ?_
      intro w1 hw1
      replace hw1:=ac hw1
      go_wp2
      go_ret
      exact ⟨ad (by rw [hv.out];simp [e2.out]),hfin.out _ hw1⟩
    ·have e3:(vh==a)=false:=beq_eq_false_iff_ne.2 (fun e=>e1 e.symm)
     have e4:(vh=a)=False:=eq_false (fun e=>e1 e.symm)
     replace e1:=aa e1
     go_enter func60,ntmps60
     go_wp2_with fail
     refine bV ?_
     repeat (any_goals (first|go_big_quiet_step (first|(go_at_call 119;with_reducible exact Hi (hW _ _).out)|(go_at_call 115;with_reducible exact Hi (hF _ _).out)|(go_at_call 115;with_reducible exact Hi (hH _ _).out)|(go_at_call 120;with_reducible exact Hi (hA _ _).out))|quiet_step (first|(go_at_call 119;with_reducible exact Hi (hW _ _).out)|(go_at_call 115;with_reducible exact Hi (hF _ _).out)|(go_at_call 115;with_reducible exact Hi (hH _ _).out)|(go_at_call 120;with_reducible exact Hi (hA _ _).out))))
     refine wpQuiet_nil ?_
     intro w1 hw1
     replace hw1:=ac hw1
     go_wp2
     go_ret
     exact ⟨ad (by rw [hv.out];simp [e1.out]),hfin.out _ hw1⟩
theorem C7 {v k:Nat} {x:Pt} (hm:el (v:Int) x=true) (hk:k≤v) (h:dK k v=nv x.mh x.ml):iS (v:Int) x=((k:Int),true):=by
 unfold iS mY
 rw [if_pos hm,HG,cO.2 ⟨hk,h⟩]
theorem Bc {v:Nat} {x:Pt} (hm:el (v:Int) x=true) (h:∀ k,k<v+1→dK k v≠nv x.mh x.ml):iS (v:Int) x=(0,false):=by
 unfold iS mY
 rw [if_pos hm,HG]
 cases hl:qH v (nv x.mh x.ml) with
 |none=>rfl
 |some n=>exact absurd (cO.1 hl).2 (h n (by have:=(cO.1 hl).1;omega))
theorem Bd (x:Pt) (y:Int) (w:World) (hx:em x):Calls prog 59 #[.agg #[.int .u64 x.vh,.int .u64 x.vl,.int .u64 x.mh,.int .u64 x.ml],.int .i64 y] w fun e w'=>e=.returned (.tuple #[.int .i64 (iS y x).1,.bool (iS y x).2])∧Below w.heap.size w w':=by
 have hP:=fun W=>sC x y W hx
 obtain ⟨wa,hwa,hsa,hba,hca,-⟩:=ak w #[.int .u64 x.vh,.int .u64 x.vl,.int .u64 x.mh,.int .u64 x.ml] 63
 have x0:wa.cell? ⟨w.heap.size,0,none⟩=some (.int .u64 x.vh):=hca 0
 have x1:wa.cell? ⟨w.heap.size,1,none⟩=some (.int .u64 x.vl):=hca 1
 have x2:wa.cell? ⟨w.heap.size,2,none⟩=some (.int .u64 x.mh):=hca 2
 have x3:wa.cell? ⟨w.heap.size,3,none⟩=some (.int .u64 x.ml):=hca 3
 have hlt:w.heap.size<wa.heap.size:=by omega
 have hfin:=aa (fun w1 (h:Below wa.heap.size wa w1)=>hba.trans (h.mono (show w.heap.size≤wa.heap.size by omega)))
 replace hsa:=aa hsa
 clear hca hba
 cases hm:el y x with
 |false=>
  have hv:=aa (show iS y x=(0,false) by unfold iS mY;rw [hm];rfl)
  rw [hm] at hP
  clear hm
  go_enter func59,ntmps59
  go_wp2_with (go_at_call 60;refine (hP _).mono ?_;rintro e w1 ⟨rfl,hb1⟩)
  refine bodyPost_ret (v:=.tuple #[.int .i64 0,.bool false]) (by simp [results,results59,go_sem]) rfl ⟨by rw [hv.out],hfin.out _ hb1⟩
 |true=>
  have hw:=(aA y).1 ((gR hx).1 hm).1
  obtain ⟨v,rfl⟩:=Hv (show 0≤y by omega)
  have hmz:=aa hm
  rw [hm] at hP
  clear hm
  have hH:=aa (fun (k:Nat) (hk:k≤v) W=>sA k v W hk (by omega) (by omega))
  have hv1:IntKind.i64.wrap ((v:Int)+1)=(v:Int)+1:=by rw [IntKind.wrap_i64];omega
  go_enter func59,ntmps59
  go_wp2_with (go_at_call 60;refine (hP _).mono ?_;rintro e w1 ⟨rfl,hb1⟩)
  go_loopw [13] (fun i wr=>∃ k:Nat,k≤v+1∧i=.int .i64 k∧Hid (∀ j,j<k→dK j v≠nv x.mh x.ml)∧Hid (Below wa.heap.size wa wr)) (fun i _=>v+1-(intOf i).toNat)
  case atStart=>exact ⟨0,Hm _,rfl,aa (fun j hj=>absurd hj (Nat.not_lt_zero _)),aa hb1⟩
  case round=>
   obtain ⟨k,hk,rfl,hno,hbr⟩:=hrel
   by_cases hkv:k<v+1
   focus
    have kk:=ah hbr.out
    have y2:=(kk.1 _ 2 hlt).trans x2
    have y3:=(kk.1 _ 3 hlt).trans x3
    clear kk x0 x1 x2 x3 hb1
    have hki:(k:Int)<(v:Int)+1:=by omega
    have hC0:=fun W=>hH.out k (by omega) W
    have hlt2:=He hlt hbr.out.size
    have hg:=aE (show Below wr.heap.size wr wr from Hf _ _) (Hh _)
    have hbz:=aa (fun w1 (h:Below wr.heap.size wr w1)=>hbr.out.trans (h.mono hbr.out.size))
    have hnvx:=Ai (a:=((dK k v / 18446744073709551616:Nat):Int)) (b:=((dK k v % 18446744073709551616:Nat):Int)) (c:=x.mh) (d:=x.ml) (by have:=qI (n:=k) (w:=v);have h2:2 ^ v≤2 ^ 128:=Ic (by decide) (by omega);constructor<;>omega) (by constructor<;>omega) hx.2.2.1 hx.2.2.2
    have hsplit:nv ((dK k v / 18446744073709551616:Nat):Int) ((dK k v % 18446744073709551616:Nat):Int)=dK k v:=by unfold nv;simp only [HG];omega
    rw [hsplit] at hnvx
    clear hsplit
    generalize ((dK k v / 18446744073709551616:Nat):Int)=p at hC0 hnvx
    generalize ((dK k v % 18446744073709551616:Nat):Int)=q at hC0 hnvx
    have hC:∀ d os,Hid (Calls prog 118 #[.int .i64 (k:Int),.int .i64 (v:Int)] (Ht (redrawn wr d) os) _):=fun d os=>aa (hC0 _)
    clear hC0
    by_cases e1:p=x.mh
    focus
     by_cases e2:q=x.ml
     focus
      have hv:=aa (C7 hmz.out (by omega) (hnvx.2 ⟨e1,e2⟩))
      subst e1 e2
      clear hnvx hno
      go_wp2_with fail
      refine bV ?_
      repeat (any_goals (first|go_big_quiet_step ((go_at_call 118;with_reducible exact Hi (hC _ _).out))|quiet_step ((go_at_call 118;with_reducible exact Hi (hC _ _).out))))
      refine wpQuiet_nil ?_
      intro w1 hw1
      replace hw1:=ac hw1
      go_wp2
      refine bodyPost_ret (v:=.tuple #[.int .i64 (k:Int),.bool true]) (by simp [results,results59,go_sem]) rfl ⟨by rw [hv.out],hfin.out _ (hbz.out _ hw1)⟩
     rotate_right
     focus
      have hno2:=aa (show ∀ j,j<k+1→dK j v≠nv x.mh x.ml from fun j hj=>by
       by_cases hjk:j<k
       ·exact hno.out j hjk
       ·rw [show j=k by omega];exact fun e=>e2 (hnvx.1 e).2)
      have e3:(q==x.ml)=false:=beq_eq_false_iff_ne.2 e2
      have e4:(q=x.ml)=False:=eq_false e2
      subst e1
      clear hnvx hno e2
    rotate_right
    focus
     have hno2:=aa (show ∀ j,j<k+1→dK j v≠nv x.mh x.ml from fun j hj=>by
      by_cases hjk:j<k
      ·exact hno.out j hjk
      ·rw [show j=k by omega];exact fun e=>e1 (hnvx.1 e).1)
     have e3:(p==x.mh)=false:=beq_eq_false_iff_ne.2 e1
     have e4:(p=x.mh)=False:=eq_false e1
     clear hnvx hno e1
   rotate_right
   focus
    have hv:=aa (Bc hmz.out (fun j hj=>hno.out j (by omega)))
    have hki:¬(k:Int)<(v:Int)+1:=by omega
    go_wp2
    refine bodyPost_ret (v:=.tuple #[.int .i64 0,.bool false]) (by simp [results,results59,go_sem]) rfl ⟨by rw [hv.out],hfin.out _ hbr.out⟩
   all_goals
    go_wp2_with fail
    refine bV ?_
    repeat (any_goals (first|go_big_quiet_step ((go_at_call 118;with_reducible exact Hi (hC _ _).out))|quiet_step ((go_at_call 118;with_reducible exact Hi (hC _ _).out))))
    refine wpQuiet_nil ?_
    intro w1 hw1
    replace hw1:=ac hw1
    go_wp2
    go_roundw
    case rel=>exact ⟨k+1,by omega,by go_num,hno2,aa (hbz.out _ hw1)⟩
    case measure=>simp [intOf];omega
theorem Be (a b c d y:Int) (w:World) (h1:aI a) (h2:aI b) (h3:aI c) (h4:aI d) (hw:aj y=true) (hf:bN y a b=true) (hh:bN y c d=true):
  Calls prog 204 #[.agg #[.int .u64 a,.int .u64 b],.agg #[.int .u64 c,.int .u64 d],.int .i64 y] w fun e w'=>e=.returned (.tuple #[.agg #[.int .u64 (aJ a c),.int .u64 (aJ b d),.int .u64 c,.int .u64 d],.int .i64 0])∧Below w.heap.size w w':=by
 obtain ⟨wa,hwa,hsa,hba,hca,-⟩:=ak w #[.int .u64 a,.int .u64 b] 61
 obtain ⟨wb,hwb,hsb,hbb,hcb,-⟩:=ak wa #[.int .u64 c,.int .u64 d] 61
 obtain ⟨wc,hwc,hsc,hbc,hcc,hfc⟩:=ak wb #[.int .u64 0,.int .u64 0,.int .u64 0,.int .u64 0] 63
 have hsb':wb.heap.size=w.heap.size+2:=by omega
 have hK:=aa (fun (W:World) (hW:Below wc.heap.size wc W)=>show (W.cell? ⟨w.heap.size,0,none⟩=some (.int .u64 a)∧W.cell? ⟨w.heap.size,1,none⟩=some (.int .u64 b)∧W.cell? ⟨w.heap.size+1,0,none⟩=some (.int .u64 c)∧W.cell? ⟨w.heap.size+1,1,none⟩=some (.int .u64 d))∧
   (W.cell? ⟨w.heap.size+2,0,none⟩=some (.int .u64 0)∧W.cell? ⟨w.heap.size+2,1,none⟩=some (.int .u64 0)∧W.cell? ⟨w.heap.size+2,2,none⟩=some (.int .u64 0)∧W.cell? ⟨w.heap.size+2,3,none⟩=some (.int .u64 0))∧
   (∀ i,W.frozen? ⟨w.heap.size+2,i,none⟩=false)∧w.heap.size+2<W.heap.size∧Below w.heap.size w W from by
  have kk:=ah hW
  have kc:=ah hbc
  have kb:=ah hbb
  have hWs:=hW.size
  rw [hsa] at hcb
  rw [hsb'] at hcc hfc
  refine ⟨⟨?_,?_,?_,?_⟩,⟨?_,?_,?_,?_⟩,fun i=> ?_,by omega,((hba.trans (hbb.mono (by omega))).trans (hbc.mono (by omega))).trans (hW.mono (by omega))⟩
  ·exact (kk.1 _ 0 (by omega)).trans ((kc.1 _ 0 (by omega)).trans ((kb.1 _ 0 (by omega)).trans (hca 0)))
  ·exact (kk.1 _ 1 (by omega)).trans ((kc.1 _ 1 (by omega)).trans ((kb.1 _ 1 (by omega)).trans (hca 1)))
  ·exact (kk.1 _ 0 (by omega)).trans ((kc.1 _ 0 (by omega)).trans (hcb 0))
  ·exact (kk.1 _ 1 (by omega)).trans ((kc.1 _ 1 (by omega)).trans (hcb 1))
  ·exact (kk.1 _ 0 (by omega)).trans (hcc 0)
  ·exact (kk.1 _ 1 (by omega)).trans (hcc 1)
  ·exact (kk.1 _ 2 (by omega)).trans (hcc 2)
  ·exact (kk.1 _ 3 (by omega)).trans (hcc 3)
  ·exact (kk.2 _ i (by omega)).trans (hfc i))
 have hW:=aa (fun W=>nJ y W)
 rw [hw] at hW
 have hF:=aa (fun W=>cL a b y W ⟨h1,h2⟩)
 rw [hf] at hF
 have hG:=aa (fun W=>cL c d y W ⟨h3,h4⟩)
 rw [hh] at hG
 have hA:=aa (fun W=>lU a b c d W)
 replace hsc:=aa hsc
 have hz0:=aa (Hf wc.heap.size wc)
 obtain ⟨⟨x0,x1,x2,x3⟩,-,-,-,-⟩:=hK.out wc hz0.out
 clear hca hcb hcc hfc hba hbb hbc hsb hw hf hh
 go_enter func204,ntmps204
 go_wp2_with (first|(go_at_call 119;refine (hW.out _).mono ?_;rintro e w1 ⟨rfl,hb1⟩;have hz1:=hz0.out.trans hb1;obtain ⟨⟨p0,p1,p2,p3⟩,-,-,-,-⟩:=hK.out w1 hz1;clear x0 x1 x2 x3)|(go_at_call 115;refine (hF.out _).mono ?_;rintro e w2 ⟨rfl,hb2⟩;have hz2:=hz1.trans (hb2.mono hz1.size);obtain ⟨⟨q0,q1,q2,q3⟩,-,-,-,-⟩:=hK.out w2 hz2;clear p0 p1 p2 p3 hb2)|(go_at_call 115;refine (hG.out _).mono ?_;rintro e w3 ⟨rfl,hb3⟩;have hz3:=hz2.trans (hb3.mono hz2.size);obtain ⟨⟨r0,r1,r2,r3⟩,-,-,-,-⟩:=hK.out w3 hz3;clear q0 q1 q2 q3 hb3))
 go_region_with (go_at_call 120;refine (hA.out _).mono ?_;rintro e w4 ⟨rfl,hb4⟩;have hz4:=hz3.trans (((Hf wc.heap.size w3).drew).trans (hb4.mono (by simpa using hz3.size)));obtain ⟨⟨s0,s1,s2,s3⟩,⟨t0,t1,t2,t3⟩,hfr,hsl,hbl⟩:=hK.out w4 hz4;have f0:=hfr 0;have f1:=hfr 1;have f2:=hfr 2;have f3:=hfr 3;clear hfr hb4)
 all_goals
  go_wp2
  refine bodyPost_ret (v:=.tuple #[.agg #[.int .u64 (aJ a c),.int .u64 (aJ b d),.int .u64 c,.int .u64 d],.int .i64 0]) (by simp [results,results204,go_sem,t0,t1,t2,t3,hsl]) rfl ⟨rfl,(((hbl.setCell (by simp) _).setCell (by simp) _).setCell (by simp) _).setCell (by simp) _⟩
end Go.Proofs.YtiebolhmdhdagaaGreatDoor

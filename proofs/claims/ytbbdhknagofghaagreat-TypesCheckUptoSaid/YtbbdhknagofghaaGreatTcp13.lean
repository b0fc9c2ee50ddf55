import Derived.Test.YtbbdhknagofghaaGreatTcp12
set_option linter.all false
set_option maxHeartbeats 8000000
set_option maxRecDepth 200000
open Go.Proofs.Tryz
namespace Go.Proofs.YtbbdhknagofghaaGreat
open _root_.Go.Calls renaming regrown_of→Bh
open _root_.Go.RowKit.Below renaming refl→Bi
open _root_.List renaming getElem?_eq_getElem→Bk, mem_of_getElem?→BQ
open _root_.Go.Sort renaming grow→Bl
open _root_.Nat renaming le_refl→Bm
open _root_.Array renaming getElem?_eq_some_iff→Bs
open _root_.Bool renaming true_and→Bt
open Go.RowKit
structure zY (bk bf bm:Nat) (m:Int) (B:Nat) (w:World):Prop where
 k:w.cell? ⟨bk,0,none⟩=some (.map (some bm))
 f:w.cell? ⟨bf,0,none⟩=some (.func (.func 47) #[] #[.pointer (some ⟨bk,0,none⟩),.pointer (some ⟨bf,0,none⟩)])
 mp:kV w bm (ch 26)
 z:w.cell? ⟨0,0,none⟩=some (.int .i64 m)
 lt:bk<B∧bf<B∧bm<B∧0<B
theorem zY.below {bk bf bm:Nat} {m:Int} {B:Nat} {w w':World} (h:zY bk bf bm m B w) (hb:Below B w w'):zY bk bf bm m B w':=
 ⟨(hb.cell (p:=⟨bk,0,none⟩) h.lt.1).trans h.k,(hb.cell (p:=⟨bf,0,none⟩) h.lt.2.1).trans h.f,h.mp.below hb h.lt.2.2.1,(hb.cell (p:=⟨0,0,none⟩) h.lt.2.2.2).trans h.z,h.lt⟩
def qS (bk bf bm:Nat) (m:Int) (B:Nat) (e:Ex):Prop:=∀ (cs:List Value) (w:World) (n:Nat),n≤16→B≤w.heap.size→zY bk bf bm m B w→dL w B cs e→
 Calls prog 47 #[.agg cs.toArray,.int .i64 (n:Int),.pointer (some ⟨bk,0,none⟩),.pointer (some ⟨bf,0,none⟩)] w fun r w'=>r=.returned (.bool (cR e n))∧Below w.heap.size w w'
theorem kZ:∀ args w,(callFunc 47 args).run prog w=.ok (.enter 47 args) w:=enters_of func47 (by kernel_rfl) rfl
theorem pw:∀ args w,(callFunc 53 args).run prog w=.ok (.enter 53 args) w:=enters_of func53 (by kernel_rfl) rfl
theorem uZ {bk bf bm:Nat} {m:Int} {B:Nat} {e:Ex} (ih:qS bk bf bm m B e) (cs:List Value) (w:World) (n bl:Nat) (hn:n≤15) (hB:B≤w.heap.size) (hK:zY bk bf bm m B w) (he:dL w B cs e)
  (hl:w.cell? ⟨bl,0,none⟩=some (.int .i64 ((n:Int)+1))):
  Calls prog 53 #[.agg cs.toArray,.pointer (some ⟨bf,0,none⟩),.pointer (some ⟨bl,0,none⟩)] w fun r w'=>r=.returned (.bool (cR e n))∧Below w.heap.size w w':=by
 have he':=he
 obtain ⟨op,lit,head,name,hi,lo,args⟩:=e
 obtain ⟨A,cap,rfl,-,-,-,-,-,-,hs⟩:=RE.inv he
 have hla:=hs.len
 obtain ⟨wa,hwa,hsa,hba,hca,-⟩:=al w (aO op lit head name hi lo A args.length cap) 45
 have hbl:bl<w.heap.size:=World.block_lt_of_cell? w _ hl
 have hX:=aa (ih _ wa n (by omega) (by omega) (hK.below (hba.mono hB)) (ai.keep he' fun q hq=>(hba.mono hB).cell hq))
 have l0:wa.cell? ⟨bl,0,none⟩=some (.int .i64 ((n:Int)+1)):=(hba.cell (p:=⟨bl,0,none⟩) hbl).trans hl
 have f0:wa.cell? ⟨bf,0,none⟩=some _:=(hK.below (hba.mono hB)).f
 obtain ⟨y0,y1,y2,y3,y4,y5,y6,y7,y8⟩:=bU hca
 have eg:=kZ
 show Calls _ _ #[.agg #[.int .u8 op,.int .i64 lit.1,.int .u64 lit.2.1,.int .u64 lit.2.2,.string head,.string name,.int .i64 hi,.int .i64 lo,.slice A args.length cap],.pointer (some ⟨bf,0,none⟩),.pointer (some ⟨bl,0,none⟩)] _ _
 replace hba:=aa hba
 have hle:w.heap.size≤wa.heap.size:=by omega
 generalize cR (.mk op lit head name hi lo args) n=z at hX ⊢
 clear hca hs hl he he' ih hK
 go_enter func53,ntmps53
 go_wp2_with (go_at_fn 47;refine hX.out.mono ?_;rintro e w1 ⟨rfl,hb1⟩)
 go_ret
 exact ⟨rfl,hba.out.trans (hb1.mono hle)⟩
theorem xr {op:Int} {a b e:Bool} {n:Int} (h:bj op=some ((a,b,true,e),n)):op=1∧e=false:=by
 unfold bj at h
 repeat (split at h; · simp at h;try (first|exact ⟨by assumption,h.2.2.1⟩|omega|simp_all))
 cases h
theorem va {op:Int} {a b c:Bool} {n:Int} (h:bj op=some ((a,b,c,true),n)):op=10:=by
 unfold bj at h
 repeat (split at h; · simp at h;try (first|assumption|omega|simp_all))
 cases h
theorem qT {op:Int} {f:Bool×Bool×Bool×Bool} {n:Int} (h:bj op=some (f,n)) (ho:op=14∨op=15):n=2:=by
 unfold bj at h
 rcases ho with rfl|rfl<;>simp at h<;>exact h.2.symm
theorem iq {op:Int} {lit:Lt} {head name:ByteArray} {hi lo:Int} {args:List Ex} (n:Nat) (h:fp op lit head name hi lo args.length=false):cR (.mk op lit head name hi lo args) n=false:=by
 cases n with
 |zero=>exact oy _
 |succ n=>rw [oA,h];rfl
theorem yQ {bk bf bm:Nat} {m:Int} {B:Nat} (op:Int) (lit:Lt) (head name:ByteArray) (hi lo:Int) (args:List Ex) (ih:∀ x∈args,qS bk bf bm m B x):qS bk bf bm m B (.mk op lit head name hi lo args):=by
 intro cs w n hn hB hK he
 obtain ⟨A,cap,rfl,-,hlit,hhd,hnm,-,-,hs⟩:=RE.inv he
 have hla:=hs.len
 obtain ⟨wa,hwa,hsa,hba,hca,-⟩:=al w (aO op lit head name hi lo A args.length cap) 45
 obtain ⟨wb,hwb,hsb,hbb,hcb,-⟩:=al wa #[.int .i64 (n:Int)] 3
 have hw:=hba.trans (hbb.mono (by omega))
 have q:∀ i,wb.cell? ⟨w.heap.size,i,none⟩=wa.cell? ⟨w.heap.size,i,none⟩:=fun i=>hbb.cell (p:=⟨w.heap.size,i,none⟩) (by show w.heap.size<_;omega)
 have hqa:∀ i,wb.cell? ⟨w.heap.size,i,none⟩=(#[.int .u8 op,.int .i64 lit.1,.int .u64 lit.2.1,.int .u64 lit.2.2,.string head,.string name,.int .i64 hi,.int .i64 lo,.slice A args.length cap]:Array Value)[i]? :=fun i=>(q i).trans (hca i)
 simp only [hsa] at hcb
 have n0:wb.cell? ⟨w.heap.size+1,0,none⟩=some (.int .i64 (n:Int)):=hcb 0
 have hKb:=hK.below (hw.mono hB)
 have hSb:=hs.below ai (hw.mono hB)
 have hl1:w.heap.size<wb.heap.size:=by omega
 have hl2:w.heap.size+1<wb.heap.size:=by omega
 have hz2:w.heap.size+2≤wb.heap.size:=by omega
 have hlk:=qO hKb.mp op
 have hr:=sN op
 have k0:=hKb.k
 show Calls _ _ #[.agg #[.int .u8 op,.int .i64 lit.1,.int .u64 lit.2.1,.int .u64 lit.2.2,.string head,.string name,.int .i64 hi,.int .i64 lo,.slice A args.length cap],.int .i64 (n:Int),.pointer (some ⟨bk,0,none⟩),.pointer (some ⟨bf,0,none⟩)] _ _
 have hw':=aa hw
 replace hsb:=aa hsb
 cases hf:bj op with
 |none=>
  rw [hf] at hr
  have hv:=aa (iq (op:=op) (lit:=lit) (head:=head) (name:=name) (hi:=hi) (lo:=lo) (args:=args) n (by unfold fp;rw [hf]))
  generalize dC (ch 26) op=L at hlk hr
  cases L with
  |some y=>cases hr
  |none=>
   replace hlk:(Instr.lookup 105 (.map (some bm)) (.int .u8 op) true).run prog wb=.ok (.tuple #[.agg #[.bool false,.bool false,.bool false,.bool false,.int .i64 0],.bool false]) wb:=hlk
   obtain ⟨y0,y1,y2,y3,y4,y5,y6,y7,y8⟩:=bU hqa
   clear hca hcb hqa q hba hbb hK he hs ih hw hKb hSb hr hf
   go_enter func47,ntmps47
   go_wp2
   go_ret
   exact ⟨ah hv.out.symm,hw'.out.alloc (by omega) _⟩
 |some f=>
  rw [hf] at hr
  obtain ⟨⟨fh,fn,fl,fe⟩,fa⟩:=f
  generalize dC (ch 26) op=L at hlk hr
  cases L with
  |none=>cases hr
  |some y=>
   obtain ⟨y0,y1⟩:=y
   injection hr with hr
   subst hr
   replace hlk:(Instr.lookup 105 (.map (some bm)) (.int .u8 op) true).run prog wb=.ok (.tuple #[.agg #[.bool fh,.bool fn,.bool fl,.bool fe,.int .i64 fa],.bool true]) wb:=hlk
   obtain ⟨wc,hwc,hsc,hbc,hcc,-⟩:=al wb #[.bool fh,.bool fn,.bool fl,.bool fe,.int .i64 fa] 109
   have hq1:∀ i,wc.cell? ⟨w.heap.size,i,none⟩=(#[.int .u8 op,.int .i64 lit.1,.int .u64 lit.2.1,.int .u64 lit.2.2,.string head,.string name,.int .i64 hi,.int .i64 lo,.slice A args.length cap]:Array Value)[i]? :=fun i=>(bx hbc w.heap.size i (by omega)).trans (hqa i)
   obtain ⟨y0,y1,y2,y3,y4,y5,y6,y7,y8⟩:=bU hqa
   obtain ⟨x0,x1,x2,x3,x4,x5,x6,x7,x8⟩:=bU hq1
   obtain ⟨z0,z1,z2,z3,z4⟩:=fR hcc
   have n1:wc.cell? ⟨w.heap.size+1,0,none⟩=some (.int .i64 (n:Int)):=(hbc.cell (p:=⟨w.heap.size+1,0,none⟩) hl2).trans n0
   have hKc:=aa (hKb.below (hbc.mono (by omega)))
   have hSc:=aa (hSb.below ai (hbc.mono (by omega)))
   have hwC:=aa (hw.trans (hbc.mono (by omega)))
   have hlc:wb.heap.size<wc.heap.size:=by omega
   have hN1:=oo head fh m wc hhd hKc.out.z
   have hN2:=oo name fn m wc hnm hKc.out.z
   have hone:=aa (show fp op lit head name hi lo args.length=(decide ((args.length:Int)=fa)&&aK head fh&&aK name fn&&(if fl then cr lit else decide (lit=fW))&&(if fe then decide (0≤lo∧lo≤hi∧hi<128) else decide (hi=0∧lo=0))) from by unfold fp;rw [hf])
   replace hf:=aa hf
   replace hsc:=aa hsc
   clear hca hcb hcc hqa hq1 q hba hbb hbc hK he hs hw hKb hSb
   by_cases hn0:n=0
   ·have hv:=aa (show cR (.mk op lit head name hi lo args) n=false from by rw [hn0];exact oy _)
    have hb0:((n:Int)==0)=true:=by rw [hn0];rfl
    clear hn0 ih hN1 hN2
    go_enter func47,ntmps47
    go_wp2
    go_ret
    exact ⟨ah hv.out.symm,hwC.out⟩
   ·have hb0:((n:Int)==0)=false:=beq_eq_false_iff_ne.2 (by omega)
    by_cases ha:(args.length:Int)=fa
    ·have ha1:((args.length:Int) !=fa)=false:=by simpa using ha
     cases hh1:aK head fh with
     |false=>
      have hv:=aa (show cR (.mk op lit head name hi lo args) n=false from iq n (by rw [hone.out,hh1];simp))
      rw [hh1] at hN1
      replace hN1:=aa hN1
      clear hn0 ih hN2 ha hh1
      go_enter func47,ntmps47
      go_wp2_with (go_at_call 48;refine hN1.out.mono ?_;rintro e w' ⟨rfl,rfl⟩)
      go_ret
      exact ⟨ah hv.out.symm,hwC.out⟩
     |true=>
      rw [hh1] at hN1
      cases hh2:aK name fn with
      |false=>
       have hv:=aa (show cR (.mk op lit head name hi lo args) n=false from iq n (by rw [hone.out,hh2];simp))
       rw [hh2] at hN2
       replace hN1:=aa hN1
       replace hN2:=aa hN2
       clear hn0 ih ha hh1 hh2
       go_enter func47,ntmps47
       go_wp2_with (go_at_call 48;first|((with_reducible refine hN1.out.mono ?_);rintro e w' ⟨rfl,rfl⟩)|((with_reducible refine hN2.out.mono ?_);rintro e w' ⟨rfl,rfl⟩))
       go_ret
       exact ⟨ah hv.out.symm,hwC.out⟩
      |true=>
       replace hN1:=aa hN1
       rw [hh2] at hN2
       replace hN2:=aa hN2
       obtain ⟨k,hnk⟩:∃ k,n=k+1:=⟨n-1,by omega⟩
       have hsucc:=oA op lit head name hi lo args k
       rw [←hnk] at hsucc
       have hkz:(n:Int)=(k:Int)+1:=by omega
       have hk15:k≤15:=by omega
       rw [hone.out,decide_eq_true ha,hh1,hh2] at hsucc
       simp only [Bt] at hsucc
       have hAll:∀ wd,Below wc.heap.size wc wd→Calls prog 52 #[.slice A args.length cap,.func (.func 53) #[] #[.pointer (some ⟨bf,0,none⟩),.pointer (some ⟨w.heap.size+1,0,none⟩)]] wd fun e w'=>e=.returned (.bool (args.all fun x=>cR x k))∧Below wd.heap.size wd w':=fun wd hd=>
        qt ai 53 #[.pointer (some ⟨bf,0,none⟩),.pointer (some ⟨w.heap.size+1,0,none⟩)] pw (fun x=>cR x k) A cap args wd (by have:=hd.size;omega) (hSc.out.below ai (hd.mono (by omega)))
         (fun i x cs W hx hbW hr hl=>by
          have hbW':=hd.trans (hbW.mono hd.size)
          exact uZ (ih x (BQ hx)) cs W k (w.heap.size+1) hk15 (by have:=hbW'.size;omega) (hKc.out.below (hbW'.mono (by omega))) hr ((bx hbW' (w.heap.size+1) 0 (by omega)).trans (by rw [n1,hkz])))
       generalize (args.all fun x=>cR x k)=za at hsucc hAll
       have hAw:=aa (hAll wc (Bi _ _))
       have hAl:=aa hAll
       have ha':=aa ha
       clear ih hn0 ha hh1 hh2 hAll hnk hkz
       have hl3:w.heap.size<wc.heap.size:=by omega
       have hl4:w.heap.size+1<wc.heap.size:=by omega
       cases fl with
       |true=>
        obtain ⟨ho,hfe⟩:=xr hf.out
        subst hfe
        have ho14:(op==14)=false:=by rw [ho];rfl
        have ho15:(op==15)=false:=by rw [ho];rfl
        have hL:=il lit wc hlit
        cases hlb:cr lit with
        |false=>
         rw [hlb] at hL
         replace hL:=aa hL
         have hv:=aa (show cR (.mk op lit head name hi lo args) n=false from by rw [hsucc,hlb];simp)
         clear hsucc hlb ho hAw hAl
         go_enter func47,ntmps47
         go_wp2_with (first|(go_at_call 48;first|((with_reducible refine hN1.out.mono ?_);rintro e w' ⟨rfl,rfl⟩)|((with_reducible refine hN2.out.mono ?_);rintro e w' ⟨rfl,rfl⟩))|(go_at_call 49;refine hL.out.mono ?_;rintro e w5 ⟨rfl,hb5⟩))
         go_ret
         exact ⟨ah hv.out.symm,hwC.out.trans (hb5.mono (by omega))⟩
        |true=>
         rw [hlb] at hL
         replace hL:=aa hL
         by_cases e1:hi=0
         ·have q1:(hi !=0)=false:=by simpa using e1
          by_cases e2:lo=0
          ·have q2:(lo !=0)=false:=by simpa using e2
           have hv:=aa (show cR (.mk op lit head name hi lo args) n=za from by rw [hsucc];simp [e1,e2,hlb,lH,ho])
           clear hsucc hlb ho
           clear e1 e2
           go_enter func47,ntmps47
           go_wp2_with (first|(go_at_call 48;first|((with_reducible refine hN1.out.mono ?_);rintro e w' ⟨rfl,rfl⟩)|((with_reducible refine hN2.out.mono ?_);rintro e w' ⟨rfl,rfl⟩))|(go_at_call 49;refine hL.out.mono ?_;rintro e w5 ⟨rfl,hb5⟩;have hc5:=ab hb5)|(go_at_call 52;refine (hAl.out w5 hb5).mono ?_;rintro e w9 ⟨rfl,hb9⟩))
           go_ret
           exact ⟨ah hv.out.symm,(hwC.out.trans (hb5.mono (by omega))).trans (hb9.mono (by have:=hb5.size;omega))⟩
          ·have q2:(lo !=0)=true:=by simpa using e2
           have hv:=aa (show cR (.mk op lit head name hi lo args) n=false from by rw [hsucc];simp [e2])
           clear hsucc hlb ho
           clear e1 e2
           go_enter func47,ntmps47
           go_wp2_with (first|(go_at_call 48;first|((with_reducible refine hN1.out.mono ?_);rintro e w' ⟨rfl,rfl⟩)|((with_reducible refine hN2.out.mono ?_);rintro e w' ⟨rfl,rfl⟩))|(go_at_call 49;refine hL.out.mono ?_;rintro e w5 ⟨rfl,hb5⟩;have hc5:=ab hb5))
           go_ret
           exact ⟨ah hv.out.symm,hwC.out.trans (hb5.mono (by omega))⟩
         ·have q1:(hi !=0)=true:=by simpa using e1
          have hv:=aa (show cR (.mk op lit head name hi lo args) n=false from by rw [hsucc];simp [e1])
          clear hsucc hlb ho
          clear e1
          go_enter func47,ntmps47
          go_wp2_with (first|(go_at_call 48;first|((with_reducible refine hN1.out.mono ?_);rintro e w' ⟨rfl,rfl⟩)|((with_reducible refine hN2.out.mono ?_);rintro e w' ⟨rfl,rfl⟩))|(go_at_call 49;refine hL.out.mono ?_;rintro e w5 ⟨rfl,hb5⟩;have hc5:=ab hb5))
          go_ret
          exact ⟨ah hv.out.symm,hwC.out.trans (hb5.mono (by omega))⟩
       |false=>
        by_cases hzz:lit=fW
        ·obtain ⟨p1,p2,p3⟩:lit.1=0∧lit.2.1=0∧lit.2.2=0:=by rw [hzz];exact ⟨rfl,rfl,rfl⟩
         replace p1:=eq_true p1
         replace p2:=eq_true p2
         replace p3:=eq_true p3
         cases fe with
         |true=>
          have ho:=va hf.out
          have ho14:(op==14)=false:=by rw [ho];rfl
          have ho15:(op==15)=false:=by rw [ho];rfl
          have hs1:lH op args=true:=by simp [lH,ho]
          by_cases e1:lo<0
          ·have hx:¬0≤lo:=by omega
           have hv:=aa (show cR (.mk op lit head name hi lo args) n=false from by rw [hsucc];simp [hx])
           clear hsucc hAl hx hs1 ho hzz
           go_enter func47,ntmps47
           go_wp2_with (first|(go_at_call 48;first|((with_reducible refine hN1.out.mono ?_);rintro e w' ⟨rfl,rfl⟩)|((with_reducible refine hN2.out.mono ?_);rintro e w' ⟨rfl,rfl⟩)))
           go_ret
           exact ⟨ah hv.out.symm,hwC.out⟩
          ·by_cases e2:hi<lo
           ·have hx:¬lo≤hi:=by omega
            have hv:=aa (show cR (.mk op lit head name hi lo args) n=false from by rw [hsucc];simp [hx])
            clear hsucc hAl hx hs1 ho hzz
            go_enter func47,ntmps47
            go_wp2_with (first|(go_at_call 48;first|((with_reducible refine hN1.out.mono ?_);rintro e w' ⟨rfl,rfl⟩)|((with_reducible refine hN2.out.mono ?_);rintro e w' ⟨rfl,rfl⟩)))
            go_ret
            exact ⟨ah hv.out.symm,hwC.out⟩
           ·by_cases e3:128≤hi
            ·have hx:¬hi<128:=by omega
             have hv:=aa (show cR (.mk op lit head name hi lo args) n=false from by rw [hsucc];simp [hx])
             clear hsucc hAl hx hs1 ho hzz
             go_enter func47,ntmps47
             go_wp2_with (first|(go_at_call 48;first|((with_reducible refine hN1.out.mono ?_);rintro e w' ⟨rfl,rfl⟩)|((with_reducible refine hN2.out.mono ?_);rintro e w' ⟨rfl,rfl⟩)))
             go_ret
             exact ⟨ah hv.out.symm,hwC.out⟩
            ·have hx:0≤lo∧lo≤hi∧hi<128:=by omega
             have hv:=aa (show cR (.mk op lit head name hi lo args) n=za from by rw [hsucc];simp [hx,hzz,hs1])
             clear hsucc hAl hx hs1 ho hzz
             go_enter func47,ntmps47
             go_wp2_with (first|(go_at_call 48;first|((with_reducible refine hN1.out.mono ?_);rintro e w' ⟨rfl,rfl⟩)|((with_reducible refine hN2.out.mono ?_);rintro e w' ⟨rfl,rfl⟩))|(go_at_call 52;refine hAw.out.mono ?_;rintro e w9 ⟨rfl,hb9⟩))
             go_ret
             exact ⟨ah hv.out.symm,hwC.out.trans (hb9.mono (by omega))⟩
         |false=>
          by_cases e1:hi=0
          ·have q1:(hi !=0)=false:=by simpa using e1
           by_cases e2:lo=0
           ·have q2:(lo !=0)=false:=by simpa using e2
            by_cases ho:op=14∨op=15
            ·rcases ho with rfl|rfl
             ·have hlen:args.length=2:=by have:=ha'.out;have:=qT hf.out (.inl rfl);omega
              have hlt:1<args.length:=by omega
              obtain ⟨b,o,ecs,hA,hb,hel,hcell,hr⟩:=hSc.out.2 1 _ (Bk hlt)
              subst hA
              have hshb:lH 14 args=uG args[1]:=by unfold lH;rw [if_pos (.inl rfl),Bk hlt];rfl
              generalize args[1]=x at hr hshb
              obtain ⟨op',lit',head',name',hi',lo',args'⟩:=x
              obtain ⟨A',cap',rfl,-,hlit',-,-,-,-,hs'⟩:=RE.inv hr
              have hl':=hs'.len
              have v0:wc.cell? ⟨b,o+9,none⟩=some (.int .u8 op'):=by simpa using hcell 0 _ rfl
              have v1:wc.cell? ⟨b,o+9+1,none⟩=some (.int .i64 lit'.1):=by simpa using hcell 1 _ rfl
              have v2:wc.cell? ⟨b,o+9+2,none⟩=some (.int .u64 lit'.2.1):=by simpa using hcell 2 _ rfl
              have v3:wc.cell? ⟨b,o+9+3,none⟩=some (.int .u64 lit'.2.2):=by simpa using hcell 3 _ rfl
              have v4:wc.cell? ⟨b,o+9+4,none⟩=some (.string head'):=by simpa using hcell 4 _ rfl
              have v5:wc.cell? ⟨b,o+9+5,none⟩=some (.string name'):=by simpa using hcell 5 _ rfl
              have v6:wc.cell? ⟨b,o+9+6,none⟩=some (.int .i64 hi'):=by simpa using hcell 6 _ rfl
              have v7:wc.cell? ⟨b,o+9+7,none⟩=some (.int .i64 lo'):=by simpa using hcell 7 _ rfl
              have v8:wc.cell? ⟨b,o+9+8,none⟩=some (.slice A' args'.length cap'):=by simpa using hcell 8 _ rfl
              obtain ⟨wd,hwd,hsd,hbd,hcd,-⟩:=al wc (aO op' lit' head' name' hi' lo' A' args'.length cap') 45
              obtain ⟨u0,u1,u2,u3,u4,u5,u6,u7,u8⟩:=bU hcd
              have hbc:=ab hbd
              have hld:wc.heap.size<wd.heap.size:=by omega
              have hle':wc.heap.size≤wd.heap.size:=by omega
              have hbw:b<wc.heap.size:=by omega
              have hOf:∀ d os,Hid (Calls prog 51 #[.int .u64 127] (Bl (redrawn wd d) os) _):=fun d os=>aa (xq 127 _)
              have hCm:∀ d os,Hid (Calls prog 50 #[.agg #[.int .u64 lit'.2.1,.int .u64 lit'.2.2],.agg #[.int .u64 0,.int .u64 127]] (Bl (redrawn wd d) os) _):=fun d os=>aa (ue _ _ 0 127 _)
              have hcmp:=ug lit' hlit'
              generalize wO (eY lit'.2.1 0) (eY lit'.2.2 127)=zc at hCm hcmp
              have hg:=ax (show Below wd.heap.size wd wd from Bi _ _) (Bm _)
              have hlz:(1:Int)<(args.length:Int):=by omega
              replace hbd:=aa hbd
              replace hsd:=aa hsd
              clear hcell hr hs' hcd hlen
              by_cases g1:op'=1
              ·have t1:(op' !=1)=false:=by simpa using g1
               by_cases g2:lit'.1=0
               ·have t2:(lit'.1 !=0)=false:=by simpa using g2
                cases g3:decide (0<zc) with
                |true=>
                 have hsb:lH 14 args=false:=by rw [hshb];rw [g3] at hcmp;simp [uG] at hcmp ⊢;intro _ _;exact hcmp
                 clear g1 g2 hcmp hshb
                 have hv:=aa (show cR (.mk 14 lit head name hi lo args) n=false from by rw [hsucc];simp [hsb])
                 clear hsucc hzz e1 e2 hsb
                 go_enter func47,ntmps47
                 go_wp2_with (first|(go_at_call 48;first|((with_reducible refine hN1.out.mono ?_);rintro e w' ⟨rfl,rfl⟩)|((with_reducible refine hN2.out.mono ?_);rintro e w' ⟨rfl,rfl⟩)))
                 refine cD ?_
                 repeat (any_goals (first|go_big_quiet_step (first|(go_at_call 51;with_reducible exact Bh (hOf _ _).out)|(go_at_call 50;with_reducible exact Bh (hCm _ _).out))|quiet_step (first|(go_at_call 51;with_reducible exact Bh (hOf _ _).out)|(go_at_call 50;with_reducible exact Bh (hCm _ _).out))))
                 refine wpQuiet_nil ?_
                 intro w5 hw5
                 replace hw5:=ac hw5
                 go_wp2
                 go_ret
                 exact ⟨ah hv.out.symm,hwC.out.trans ((hbd.out.trans (hw5.mono (by omega))).mono (by omega))⟩
                |false=>
                 have hsb:lH 14 args=true:=by rw [hshb];rw [g3] at hcmp;simp [uG] at hcmp ⊢;exact ⟨⟨g1,g2⟩,hcmp⟩
                 clear g1 g2 hcmp hshb
                 have hv:=aa (show cR (.mk 14 lit head name hi lo args) n=za from by rw [hsucc];simp [hsb,e1,e2,hzz])
                 clear hsucc hzz e1 e2 hsb
                 go_enter func47,ntmps47
                 go_wp2_with (first|(go_at_call 48;first|((with_reducible refine hN1.out.mono ?_);rintro e w' ⟨rfl,rfl⟩)|((with_reducible refine hN2.out.mono ?_);rintro e w' ⟨rfl,rfl⟩)))
                 refine cD ?_
                 repeat (any_goals (first|go_big_quiet_step (first|(go_at_call 51;with_reducible exact Bh (hOf _ _).out)|(go_at_call 50;with_reducible exact Bh (hCm _ _).out))|quiet_step (first|(go_at_call 51;with_reducible exact Bh (hOf _ _).out)|(go_at_call 50;with_reducible exact Bh (hCm _ _).out))))
                 refine wpQuiet_nil ?_
                 intro w5 hw5
                 replace hw5:=ac hw5
                 have hc5:=ab hw5
                 have hm1:w.heap.size<wd.heap.size:=by omega
                 have hm2:w.heap.size+1<wd.heap.size:=by omega
                 go_wp2_with (go_at_call 52;refine (hAl.out w5 (hbd.out.trans (hw5.mono (by omega)))).mono ?_;rintro e w9 ⟨rfl,hb9⟩)
                 go_ret
                 exact ⟨ah hv.out.symm,(hwC.out.trans ((hbd.out.trans (hw5.mono (by omega))).mono (by omega))).trans (hb9.mono (by have:=hw5.size;omega))⟩
               ·have t2:(lit'.1 !=0)=true:=by simpa using g2
                have hsb:lH 14 args=false:=by rw [hshb];simp [uG,g2]
                clear g1 g2 hcmp hshb
                have hv:=aa (show cR (.mk 14 lit head name hi lo args) n=false from by rw [hsucc];simp [hsb])
                clear hsucc hzz e1 e2 hsb
                go_enter func47,ntmps47
                go_wp2_with (first|(go_at_call 48;first|((with_reducible refine hN1.out.mono ?_);rintro e w' ⟨rfl,rfl⟩)|((with_reducible refine hN2.out.mono ?_);rintro e w' ⟨rfl,rfl⟩)))
                refine cD ?_
                repeat (any_goals (first|go_big_quiet_step (first|(go_at_call 51;with_reducible exact Bh (hOf _ _).out)|(go_at_call 50;with_reducible exact Bh (hCm _ _).out))|quiet_step (first|(go_at_call 51;with_reducible exact Bh (hOf _ _).out)|(go_at_call 50;with_reducible exact Bh (hCm _ _).out))))
                refine wpQuiet_nil ?_
                intro w5 hw5
                replace hw5:=ac hw5
                go_wp2
                go_ret
                exact ⟨ah hv.out.symm,hwC.out.trans ((hbd.out.trans (hw5.mono (by omega))).mono (by omega))⟩
              ·have t1:(op' !=1)=true:=by simpa using g1
               have hsb:lH 14 args=false:=by rw [hshb];simp [uG,g1]
               clear g1 hcmp hshb
               have hv:=aa (show cR (.mk 14 lit head name hi lo args) n=false from by rw [hsucc];simp [hsb])
               clear hsucc hzz e1 e2 hsb
               go_enter func47,ntmps47
               go_wp2_with (first|(go_at_call 48;first|((with_reducible refine hN1.out.mono ?_);rintro e w' ⟨rfl,rfl⟩)|((with_reducible refine hN2.out.mono ?_);rintro e w' ⟨rfl,rfl⟩)))
               refine cD ?_
               repeat (any_goals (first|go_big_quiet_step (first|(go_at_call 51;with_reducible exact Bh (hOf _ _).out)|(go_at_call 50;with_reducible exact Bh (hCm _ _).out))|quiet_step (first|(go_at_call 51;with_reducible exact Bh (hOf _ _).out)|(go_at_call 50;with_reducible exact Bh (hCm _ _).out))))
               refine wpQuiet_nil ?_
               intro w5 hw5
               replace hw5:=ac hw5
               go_wp2
               go_ret
               exact ⟨ah hv.out.symm,hwC.out.trans ((hbd.out.trans (hw5.mono (by omega))).mono (by omega))⟩
             ·have hlen:args.length=2:=by have:=ha'.out;have:=qT hf.out (.inr rfl);omega
              have hlt:1<args.length:=by omega
              obtain ⟨b,o,ecs,hA,hb,hel,hcell,hr⟩:=hSc.out.2 1 _ (Bk hlt)
              subst hA
              have hshb:lH 15 args=uG args[1]:=by unfold lH;rw [if_pos (.inr rfl),Bk hlt];rfl
              generalize args[1]=x at hr hshb
              obtain ⟨op',lit',head',name',hi',lo',args'⟩:=x
              obtain ⟨A',cap',rfl,-,hlit',-,-,-,-,hs'⟩:=RE.inv hr
              have hl':=hs'.len
              have v0:wc.cell? ⟨b,o+9,none⟩=some (.int .u8 op'):=by simpa using hcell 0 _ rfl
              have v1:wc.cell? ⟨b,o+9+1,none⟩=some (.int .i64 lit'.1):=by simpa using hcell 1 _ rfl
              have v2:wc.cell? ⟨b,o+9+2,none⟩=some (.int .u64 lit'.2.1):=by simpa using hcell 2 _ rfl
              have v3:wc.cell? ⟨b,o+9+3,none⟩=some (.int .u64 lit'.2.2):=by simpa using hcell 3 _ rfl
              have v4:wc.cell? ⟨b,o+9+4,none⟩=some (.string head'):=by simpa using hcell 4 _ rfl
              have v5:wc.cell? ⟨b,o+9+5,none⟩=some (.string name'):=by simpa using hcell 5 _ rfl
              have v6:wc.cell? ⟨b,o+9+6,none⟩=some (.int .i64 hi'):=by simpa using hcell 6 _ rfl
              have v7:wc.cell? ⟨b,o+9+7,none⟩=some (.int .i64 lo'):=by simpa using hcell 7 _ rfl
              have v8:wc.cell? ⟨b,o+9+8,none⟩=some (.slice A' args'.length cap'):=by simpa using hcell 8 _ rfl
              obtain ⟨wd,hwd,hsd,hbd,hcd,-⟩:=al wc (aO op' lit' head' name' hi' lo' A' args'.length cap') 45
              obtain ⟨u0,u1,u2,u3,u4,u5,u6,u7,u8⟩:=bU hcd
              have hbc:=ab hbd
              have hld:wc.heap.size<wd.heap.size:=by omega
              have hle':wc.heap.size≤wd.heap.size:=by omega
              have hbw:b<wc.heap.size:=by omega
              have hOf:∀ d os,Hid (Calls prog 51 #[.int .u64 127] (Bl (redrawn wd d) os) _):=fun d os=>aa (xq 127 _)
              have hCm:∀ d os,Hid (Calls prog 50 #[.agg #[.int .u64 lit'.2.1,.int .u64 lit'.2.2],.agg #[.int .u64 0,.int .u64 127]] (Bl (redrawn wd d) os) _):=fun d os=>aa (ue _ _ 0 127 _)
              have hcmp:=ug lit' hlit'
              generalize wO (eY lit'.2.1 0) (eY lit'.2.2 127)=zc at hCm hcmp
              have hg:=ax (show Below wd.heap.size wd wd from Bi _ _) (Bm _)
              have hlz:(1:Int)<(args.length:Int):=by omega
              replace hbd:=aa hbd
              replace hsd:=aa hsd
              clear hcell hr hs' hcd hlen
              by_cases g1:op'=1
              ·have t1:(op' !=1)=false:=by simpa using g1
               by_cases g2:lit'.1=0
               ·have t2:(lit'.1 !=0)=false:=by simpa using g2
                cases g3:decide (0<zc) with
                |true=>
                 have hsb:lH 15 args=false:=by rw [hshb];rw [g3] at hcmp;simp [uG] at hcmp ⊢;intro _ _;exact hcmp
                 clear g1 g2 hcmp hshb
                 have hv:=aa (show cR (.mk 15 lit head name hi lo args) n=false from by rw [hsucc];simp [hsb])
                 clear hsucc hzz e1 e2 hsb
                 go_enter func47,ntmps47
                 go_wp2_with (first|(go_at_call 48;first|((with_reducible refine hN1.out.mono ?_);rintro e w' ⟨rfl,rfl⟩)|((with_reducible refine hN2.out.mono ?_);rintro e w' ⟨rfl,rfl⟩)))
                 refine cD ?_
                 repeat (any_goals (first|go_big_quiet_step (first|(go_at_call 51;with_reducible exact Bh (hOf _ _).out)|(go_at_call 50;with_reducible exact Bh (hCm _ _).out))|quiet_step (first|(go_at_call 51;with_reducible exact Bh (hOf _ _).out)|(go_at_call 50;with_reducible exact Bh (hCm _ _).out))))
                 refine wpQuiet_nil ?_
                 intro w5 hw5
                 replace hw5:=ac hw5
                 go_wp2
                 go_ret
                 exact ⟨ah hv.out.symm,hwC.out.trans ((hbd.out.trans (hw5.mono (by omega))).mono (by omega))⟩
                |false=>
                 have hsb:lH 15 args=true:=by rw [hshb];rw [g3] at hcmp;simp [uG] at hcmp ⊢;exact ⟨⟨g1,g2⟩,hcmp⟩
                 clear g1 g2 hcmp hshb
                 have hv:=aa (show cR (.mk 15 lit head name hi lo args) n=za from by rw [hsucc];simp [hsb,e1,e2,hzz])
                 clear hsucc hzz e1 e2 hsb
                 go_enter func47,ntmps47
                 go_wp2_with (first|(go_at_call 48;first|((with_reducible refine hN1.out.mono ?_);rintro e w' ⟨rfl,rfl⟩)|((with_reducible refine hN2.out.mono ?_);rintro e w' ⟨rfl,rfl⟩)))
                 refine cD ?_
                 repeat (any_goals (first|go_big_quiet_step (first|(go_at_call 51;with_reducible exact Bh (hOf _ _).out)|(go_at_call 50;with_reducible exact Bh (hCm _ _).out))|quiet_step (first|(go_at_call 51;with_reducible exact Bh (hOf _ _).out)|(go_at_call 50;with_reducible exact Bh (hCm _ _).out))))
                 refine wpQuiet_nil ?_
                 intro w5 hw5
                 replace hw5:=ac hw5
                 have hc5:=ab hw5
                 have hm1:w.heap.size<wd.heap.size:=by omega
                 have hm2:w.heap.size+1<wd.heap.size:=by omega
                 go_wp2_with (go_at_call 52;refine (hAl.out w5 (hbd.out.trans (hw5.mono (by omega)))).mono ?_;rintro e w9 ⟨rfl,hb9⟩)
                 go_ret
                 exact ⟨ah hv.out.symm,(hwC.out.trans ((hbd.out.trans (hw5.mono (by omega))).mono (by omega))).trans (hb9.mono (by have:=hw5.size;omega))⟩
               ·have t2:(lit'.1 !=0)=true:=by simpa using g2
                have hsb:lH 15 args=false:=by rw [hshb];simp [uG,g2]
                clear g1 g2 hcmp hshb
                have hv:=aa (show cR (.mk 15 lit head name hi lo args) n=false from by rw [hsucc];simp [hsb])
                clear hsucc hzz e1 e2 hsb
                go_enter func47,ntmps47
                go_wp2_with (first|(go_at_call 48;first|((with_reducible refine hN1.out.mono ?_);rintro e w' ⟨rfl,rfl⟩)|((with_reducible refine hN2.out.mono ?_);rintro e w' ⟨rfl,rfl⟩)))
                refine cD ?_
                repeat (any_goals (first|go_big_quiet_step (first|(go_at_call 51;with_reducible exact Bh (hOf _ _).out)|(go_at_call 50;with_reducible exact Bh (hCm _ _).out))|quiet_step (first|(go_at_call 51;with_reducible exact Bh (hOf _ _).out)|(go_at_call 50;with_reducible exact Bh (hCm _ _).out))))
                refine wpQuiet_nil ?_
                intro w5 hw5
                replace hw5:=ac hw5
                go_wp2
                go_ret
                exact ⟨ah hv.out.symm,hwC.out.trans ((hbd.out.trans (hw5.mono (by omega))).mono (by omega))⟩
              ·have t1:(op' !=1)=true:=by simpa using g1
               have hsb:lH 15 args=false:=by rw [hshb];simp [uG,g1]
               clear g1 hcmp hshb
               have hv:=aa (show cR (.mk 15 lit head name hi lo args) n=false from by rw [hsucc];simp [hsb])
               clear hsucc hzz e1 e2 hsb
               go_enter func47,ntmps47
               go_wp2_with (first|(go_at_call 48;first|((with_reducible refine hN1.out.mono ?_);rintro e w' ⟨rfl,rfl⟩)|((with_reducible refine hN2.out.mono ?_);rintro e w' ⟨rfl,rfl⟩)))
               refine cD ?_
               repeat (any_goals (first|go_big_quiet_step (first|(go_at_call 51;with_reducible exact Bh (hOf _ _).out)|(go_at_call 50;with_reducible exact Bh (hCm _ _).out))|quiet_step (first|(go_at_call 51;with_reducible exact Bh (hOf _ _).out)|(go_at_call 50;with_reducible exact Bh (hCm _ _).out))))
               refine wpQuiet_nil ?_
               intro w5 hw5
               replace hw5:=ac hw5
               go_wp2
               go_ret
               exact ⟨ah hv.out.symm,hwC.out.trans ((hbd.out.trans (hw5.mono (by omega))).mono (by omega))⟩
            ·have ho14:(op==14)=false:=beq_eq_false_iff_ne.2 fun h=>ho (.inl h)
             have ho15:(op==15)=false:=beq_eq_false_iff_ne.2 fun h=>ho (.inr h)
             have hs1:lH op args=true:=by unfold lH;rw [if_neg ho]
             have hv:=aa (show cR (.mk op lit head name hi lo args) n=za from by rw [hsucc];simp [e1,e2,hzz,hs1])
             clear hsucc hAl hs1 ho hzz e1 e2
             go_enter func47,ntmps47
             go_wp2_with (first|(go_at_call 48;first|((with_reducible refine hN1.out.mono ?_);rintro e w' ⟨rfl,rfl⟩)|((with_reducible refine hN2.out.mono ?_);rintro e w' ⟨rfl,rfl⟩))|(go_at_call 52;refine hAw.out.mono ?_;rintro e w9 ⟨rfl,hb9⟩))
             go_ret
             exact ⟨ah hv.out.symm,hwC.out.trans (hb9.mono (by omega))⟩
           ·have q2:(lo !=0)=true:=by simpa using e2
            have hv:=aa (show cR (.mk op lit head name hi lo args) n=false from by rw [hsucc];simp [e2])
            clear hsucc hAl hzz e1 e2
            go_enter func47,ntmps47
            go_wp2_with (first|(go_at_call 48;first|((with_reducible refine hN1.out.mono ?_);rintro e w' ⟨rfl,rfl⟩)|((with_reducible refine hN2.out.mono ?_);rintro e w' ⟨rfl,rfl⟩)))
            go_ret
            exact ⟨ah hv.out.symm,hwC.out⟩
          ·have q1:(hi !=0)=true:=by simpa using e1
           have hv:=aa (show cR (.mk op lit head name hi lo args) n=false from by rw [hsucc];simp [e1])
           clear hsucc hAl hzz e1
           go_enter func47,ntmps47
           go_wp2_with (first|(go_at_call 48;first|((with_reducible refine hN1.out.mono ?_);rintro e w' ⟨rfl,rfl⟩)|((with_reducible refine hN2.out.mono ?_);rintro e w' ⟨rfl,rfl⟩)))
           go_ret
           exact ⟨ah hv.out.symm,hwC.out⟩
        ·by_cases p1:lit.1=0
         ·by_cases p2:lit.2.1=0
          ·by_cases p3:lit.2.2=0
           ·exact absurd (Prod.ext p1 (Prod.ext p2 p3)) hzz
           ·replace p1:=eq_true p1
            replace p2:=eq_true p2
            have hv:=aa (show cR (.mk op lit head name hi lo args) n=false from by rw [hsucc];simp [hzz])
            clear hsucc hAl hzz
            go_enter func47,ntmps47
            go_wp2_with (first|(go_at_call 48;first|((with_reducible refine hN1.out.mono ?_);rintro e w' ⟨rfl,rfl⟩)|((with_reducible refine hN2.out.mono ?_);rintro e w' ⟨rfl,rfl⟩)))
            go_ret
            exact ⟨ah hv.out.symm,hwC.out⟩
          ·replace p1:=eq_true p1
           have hv:=aa (show cR (.mk op lit head name hi lo args) n=false from by rw [hsucc];simp [hzz])
           clear hsucc hAl hzz
           go_enter func47,ntmps47
           go_wp2_with (first|(go_at_call 48;first|((with_reducible refine hN1.out.mono ?_);rintro e w' ⟨rfl,rfl⟩)|((with_reducible refine hN2.out.mono ?_);rintro e w' ⟨rfl,rfl⟩)))
           go_ret
           exact ⟨ah hv.out.symm,hwC.out⟩
         ·have hv:=aa (show cR (.mk op lit head name hi lo args) n=false from by rw [hsucc];simp [hzz])
          clear hsucc hAl hzz
          go_enter func47,ntmps47
          go_wp2_with (first|(go_at_call 48;first|((with_reducible refine hN1.out.mono ?_);rintro e w' ⟨rfl,rfl⟩)|((with_reducible refine hN2.out.mono ?_);rintro e w' ⟨rfl,rfl⟩)))
          go_ret
          exact ⟨ah hv.out.symm,hwC.out⟩
    ·have ha1:((args.length:Int) !=fa)=true:=by simpa using ha
     have hv:=aa (show cR (.mk op lit head name hi lo args) n=false from iq n (by rw [hone.out,decide_eq_false ha];rfl))
     clear hn0 ih hN1 hN2 ha
     go_enter func47,ntmps47
     go_wp2
     go_ret
     exact ⟨ah hv.out.symm,hwC.out⟩
theorem yR (bk bf bm:Nat) (m:Int) (B:Nat) (e:Ex):qS bk bf bm m B e:=Ex.ind (P:=fun e=>qS bk bf bm m B e) (fun op lit head name hi lo args ih=>yQ op lit head name hi lo args ih) e
theorem yS {w1 W2:World} {bm:Nat} {m:Int} (hW:(w1.alloc (.cells #[.map (some bm)] 105)).alloc (.cells #[.func (.func 47) #[] #[.pointer (some ⟨w1.heap.size,0,none⟩),.pointer (some ⟨w1.heap.size+1,0,none⟩)]] 107)=W2)
  (hf:kV w1 bm (ch 26)) (hm:bm<w1.heap.size) (hz:w1.cell? ⟨0,0,none⟩=some (.int .i64 m)):zY w1.heap.size (w1.heap.size+1) bm m (w1.heap.size+2) W2∧Below w1.heap.size w1 W2∧W2.heap.size=w1.heap.size+2:=by
 obtain ⟨x1,h1,s1,b1,c1,-⟩:=al w1 #[.map (some bm)] 105
 rw [h1] at hW
 obtain ⟨x2,h2,s2,b2,c2,-⟩:=al x1 #[.func (.func 47) #[] #[.pointer (some ⟨w1.heap.size,0,none⟩),.pointer (some ⟨w1.heap.size+1,0,none⟩)]] 107
 rw [h2] at hW
 subst hW
 rw [s1] at c2
 refine ⟨⟨(bx b2 w1.heap.size 0 (by omega)).trans (c1 0),c2 0,(hf.below b1 hm).below b2 (by omega),(bx b2 0 0 (by omega)).trans ((bx b1 0 0 (by omega)).trans hz),by omega⟩,b1.trans (b2.mono (by omega)),by omega⟩
theorem dD {m:Int} {B:Nat} (e:Ex) (cs:List Value) (w:World) (hB:B≤w.heap.size) (h0:0<B)
  (hz:w.cell? ⟨0,0,none⟩=some (.int .i64 m)) (he:dL w B cs e):
  Calls prog 28 #[.agg cs.toArray] w fun r w'=>r=.returned (.bool (cj e))∧Below w.heap.size w w':=by
 have he':=he
 obtain ⟨op,lit,head,name,hi,lo,args⟩:=e
 obtain ⟨A,cap,rfl,-,-,-,-,-,-,hs⟩:=RE.inv he
 have hla:=hs.len
 obtain ⟨wa,hwa,hsa,hba,hca,-⟩:=al w (aO op lit head name hi lo A args.length cap) 45
 have eg:=kZ
 have hX:=aa (fun (W:World) (bk bf bm B':Nat) (hb:Below w.heap.size w W) (h1:B≤B') (h2:B'≤W.heap.size) (hk:zY bk bf bm m B' W)=>yR bk bf bm m B' (.mk op lit head name hi lo args) _ W 16 (by omega) h2 hk (ai.more (ai.keep he' fun q hq=>(hb.mono hB).cell hq) h1))
 rw [yP]
 generalize cR (.mk op lit head name hi lo args) 16=z at hX ⊢
 have hza:wa.cell? ⟨0,0,none⟩=some (.int .i64 m):=(bx hba 0 0 (by omega)).trans hz
 have hfo:Calls prog 46 #[] wa fun e w1=>e=.returned (.map (some wa.heap.size))∧kV w1 wa.heap.size (ch 26)∧Below wa.heap.size wa w1∧w.heap.size<w1.heap.size∧wa.heap.size<w1.heap.size∧w1.cell? ⟨0,0,none⟩=some (.int .i64 m)∧∀ i,w1.cell? ⟨w.heap.size,i,none⟩=wa.cell? ⟨w.heap.size,i,none⟩:=
  (uW wa).mono (by
   rintro e w1 ⟨rfl,hf1,hb1⟩
   have hs1:=hb1.size
   have hlt:wa.heap.size<w1.heap.size:=(Bs.1 hf1).1
   exact ⟨rfl,hf1,hb1,by omega,hlt,(bx hb1 0 0 (by omega)).trans hza,fun i=>hb1.cell (p:=⟨w.heap.size,i,none⟩) (by show w.heap.size<_;omega)⟩)
 simp only [hca] at hfo
 replace hfo:=aa hfo
 clear hs he he' hz
 show Calls _ _ #[.agg #[.int .u8 op,.int .i64 lit.1,.int .u64 lit.2.1,.int .u64 lit.2.2,.string head,.string name,.int .i64 hi,.int .i64 lo,.slice A args.length cap]] _ _
 go_enter func28,ntmps28
 go_wp2_with (go_at_call 46;refine hfo.out.mono ?_;rintro e w1 ⟨rfl,hf1,hb1,hl1,hl2,hz1,gk⟩;have u0:=gk 0;have u1:=gk 1;have u2:=gk 2;have u3:=gk 3;have u4:=gk 4;have u5:=gk 5;have u6:=gk 6;have u7:=gk 7;have u8:=gk 8;replace hf1:=aa hf1;replace hb1:=aa hb1)
 rw [hsa] at hl2
 have hf2:=hf1.out
 rw [hsa] at hf2
 obtain ⟨hk,hb2,hs2⟩:=yS rfl hf2 hl2 hz1
 have hbW:=hba.trans ((hb1.out.mono (by omega)).trans (hb2.mono (by omega)))
 refine (hX.out _ _ _ _ (w1.heap.size+2) hbW (by omega) (by omega) hk).mono ?_
 rintro e w2 ⟨rfl,hb3⟩
 replace hbW:=aa (hbW.trans (hb3.mono (by omega)))
 clear hk hb2 hb3 hs2
 go_wp2
 go_ret
 exact ⟨rfl,hbW.out⟩
end Go.Proofs.YtbbdhknagofghaaGreat

import Derived.Test.YtiebolhmdhdagaaGreatDoorEwp08
set_option linter.all false
set_option maxHeartbeats 4000000
set_option maxRecDepth 100000
open Go.Proofs.Tryz
namespace Go.Proofs.YtiebolhmdhdagaaGreatDoor
open _root_.Nat renaming lt_of_lt_of_le→He, le_refl→Hh, le_trans→Hj, zero_le→Hm, le_of_lt→Hs, zero_add→HS
open _root_.Go.RowKit.Below renaming refl→Hf
open _root_.Bool renaming false_and→Hg, true_and→Hk, and_eq_true→Hl, eq_iff_iff→Hr
open _root_.Go.Calls renaming regrown_of→Hi
open _root_.List renaming getElem?_eq_getElem→Hn, length_cons→Hp, length_append→Hu, length_map→Hz, mem_cons→HD, mem_cons_self→HE, length_take→HF, getElem?_toArray→HH, mem_cons_of_mem→HI, range→HJ, getElem?_cons_zero→HK, getElem?_cons_succ→HM, append_assoc→HP, take_succ_eq_append_getElem→HR, getD_eq_getElem?_getD→HT, length_drop→H1, drop_eq_getElem_cons→H4, eq_nil_of_length_eq_zero→H8
open _root_.Go.Sort renaming grow→Ht
open _root_.Int renaming eq_ofNat_of_zero_le→Hv
open _root_.Array renaming getElem?_setIfInBounds→Ih
open Go.RowKit
theorem Sl.num {w:World} {B:Nat} {A:Option Addr} {xs:List (Int×Int)} (h:Sl 2 ke w B A xs) {i:Nat} (hi:i<xs.length):∃ b o,A=some ⟨b,o,none⟩∧b<B∧w.cell? ⟨b,o+i*2,none⟩=some (.int .u64 xs[i].1)∧w.cell? ⟨b,o+i*2+1,none⟩=some (.int .u64 xs[i].2)∧aI xs[i].1∧aI xs[i].2:=by
 obtain ⟨b,o,ecs,hA,hb,hl,hc,rfl,h1,h2⟩:=h.2 i xs[i] (Hn hi)
 exact ⟨b,o,hA,hb,hc 0 _ rfl,hc 1 _ rfl,h1,h2⟩
theorem Sl.act {w:World} {B:Nat} {A:Option Addr} {xs:List qv} (h:Sl 2 Ad w B A xs) {i:Nat} (hi:i<xs.length):∃ b o A1 A2 c1 c2,A=some ⟨b,o,none⟩∧b<B∧w.cell? ⟨b,o+i*2,none⟩=some (.slice A1 xs[i].params.length c1)∧w.cell? ⟨b,o+i*2+1,none⟩=some (.slice A2 xs[i].body.length c2)∧Sl 1 bd w B A1 xs[i].params∧Sl 5 oK w B A2 xs[i].body:=by
 obtain ⟨b,o,ecs,hA,hb,hl,hc,A1,A2,c1,c2,rfl,h1,h2⟩:=h.2 i xs[i] (Hn hi)
 exact ⟨b,o,A1,A2,c1,c2,hA,hb,hc 0 _ rfl,hc 1 _ rfl,h1,h2⟩
theorem kT (A1 A2 A3 A4 A5 A6 A7 A8 A9 A10 A11 A12:Option Addr) (p:Lp) (c1 c2 c3 c4 c5 c6 c7 c8 c9 c10 c11 c12:Nat) (A' B:Option Addr) (cap' d:Nat) (l:List Int) (r:Rn) (w:World) (h:cJ w w.heap.size A1 A2 A3 A4 A5 A6 A7 A8 A9 A10 A11 A12 p) (hl:Sl 1 bd w w.heap.size A' l) (hr:Sl 2 ke w w.heap.size B r.args):
  Calls prog 68 #[.agg #[.slice A1 p.heads.length c1,.slice A2 p.metas.length c2,.slice A3 p.steps.length c3,.slice A4 p.acts.length c4,.slice A5 p.tabs.length c5,.slice A6 p.control.length c6,.slice A7 p.emit.length c7,.slice A8 p.nh.length c8,.slice A9 p.nf.length c9,.slice A10 p.nm.length c10,.slice A11 p.na.length c11,.slice A12 p.nt.length c12],.slice A' l.length cap',.agg #[.int .i64 r.act,.slice B r.args.length d]] w fun e w'=>e=.returned (.bool (dD p l r))∧Below w.heap.size w w':=by
 obtain ⟨act,args⟩:=r
 simp only at hr ⊢
 have lr:=hr.len
 have l4:=h.acts.len
 obtain ⟨wz,hwz,hsz,hbz,hcz,-⟩:=ak w #[.slice A1 p.heads.length c1,.slice A2 p.metas.length c2,.slice A3 p.steps.length c3,.slice A4 p.acts.length c4,.slice A5 p.tabs.length c5,.slice A6 p.control.length c6,.slice A7 p.emit.length c7,.slice A8 p.nh.length c8,.slice A9 p.nf.length c9,.slice A10 p.nm.length c10,.slice A11 p.na.length c11,.slice A12 p.nt.length c12] 33
 obtain ⟨wa,hwa,hsa,hba,hca,-⟩:=ak wz #[.int .i64 act,.slice B args.length d] 55
 have y3:=(bH hba w.heap.size 3 (by omega)).trans (hcz 3)
 simp only [HH,HK,HM] at y3
 rw [hsz] at hca
 have x0:wa.cell? ⟨w.heap.size+1,0,none⟩=some (.int .i64 act):=hca 0
 have x1:wa.cell? ⟨w.heap.size+1,1,none⟩=some (.slice B args.length d):=hca 1
 have hl1:w.heap.size<wa.heap.size:=by omega
 have hl2:w.heap.size+1<wa.heap.size:=by omega
 have hw:Below w.heap.size w wa:=hbz.trans (hba.mono (by omega))
 have hA4:=aa ((h.acts.below io hw).more io hw.size)
 have hL:=aa ((hl.below ai hw).more ai hw.size)
 have hR:=aa ((hr.below aw hw).more aw hw.size)
 replace hw:=aa hw
 replace hsa:=aa hsa
 clear hca hcz hba hbz h hl hr
 go_enter func68,ntmps68
 rcases dt p.acts act with ⟨k,rfl,hk,e1⟩|⟨e1,e2,e3⟩
 focus
  have hv:=aa (AK (p:=p) (l:=l) (r:=⟨(k:Int),args⟩) e1)
  obtain ⟨b,o,A1',A2',c1',c2',rfl,hb,t0,t1,hs1,-⟩:=hA4.out.act hk
  have hkz:(k:Int)<(p.acts.length:Int):=by omega
  have d1:decide ((k:Int)<0)=false:=decide_eq_false (by omega)
  have d2:decide ((p.acts.length:Int)≤(k:Int))=false:=decide_eq_false (by omega)
  have d3:decide (p.acts.length≤k)=false:=decide_eq_false (by omega)
  have hCt:=aa (fun m=>nE A' cap' l (k:Int) (wa.drewN m) ((hL.out.drewN ai m).more ai (by simp)))
  have hwd:=aa (fun m=>hw.out.trans (au (Hf wa.heap.size wa|>.mono hw.out.size) m))
  have lp:=hs1.len
  by_cases hm:(k:Int)∈l
  ·rw [decide_eq_true hm] at hCt
   simp only [decide_eq_true hm,Hk] at hv
   clear hm
   by_cases he:args.length=p.acts[k].params.length
   ·have hez:((args.length:Int) !=(p.acts[k].params.length:Int))=false:=by rw [he];exact bne_self_eq_false _
    have hv2:=aa (show ci gC args p.acts[k].params=am (fun i=>aK (fun x=>aK (gC x) p.acts[k].params i) args i) args.length from by unfold ci;rw [decide_eq_true he,Hk])
    replace he:=aa he
    generalize hF:(fun i=>aK (fun x=>aK (gC x) p.acts[k].params i) args i)=F at hv2
    go_wp2_with fail
    go_quiet ((go_at_call 122;with_reducible exact de (hCt.out _)))
    go_wp2
    clear hCt
    go_loopw [7] (fun i wr=>∃ n:Nat,n≤args.length∧i=.int .i64 n∧Hid (am F n=true)∧Hid (Below wa.heap.size wa wr)) (fun i _=>args.length-(intOf i).toNat)
    case atStart=>exact ⟨0,Hm _,rfl,aa rfl,aa (au (Hf _ _) _)⟩
    case round=>
     obtain ⟨n,hn,rfl,hc,hbr⟩:=hrel
     have kbr:=ah hbr.out
     have hsr:=hbr.out.size
     have y3r:=(kbr.1 _ 3 hl1).trans y3
     have x0r:=(kbr.1 _ 0 hl2).trans x0
     have x1r:=(kbr.1 _ 1 hl2).trans x1
     have t0r:=(kbr.1 _ (o+k*2) hb).trans t0
     by_cases hlt:n<args.length
     ·have hlt':n<p.acts[k].params.length:=by have:=he.out;omega
      have hnz:(n:Int)<(args.length:Int):=by omega
      have hnz':(n:Int)<(p.acts[k].params.length:Int):=by omega
      obtain ⟨g,q,rfl,hg,n0,n1,u⟩:=hR.out.num hlt
      obtain ⟨g',q',rfl,hg',m0⟩:=hs1.int hlt'
      have n0r:=(kbr.1 _ (q+n*2) hg).trans n0
      have n1r:=(kbr.1 _ (q+n*2+1) hg).trans n1
      have m0r:=(kbr.1 _ (q'+n) hg').trans m0
      have hFn:F n=gC args[n] p.acts[k].params[n]:=by rw [←hF];simp only [ag _ hlt,ag _ hlt']
      have hK:=fun W=>gl args[n].1 args[n].2 p.acts[k].params[n] W u
      have hN:=aa (show am F (n+1)=bN p.acts[k].params[n] args[n].1 args[n].2 from by rw [am,hc.out,Hk,hFn];rfl)
      have hlo:=aa (fun (g:bN p.acts[k].params[n] args[n].1 args[n].2=false)=>show am F args.length=false from aN hlt (by rw [hFn];exact g))
      generalize bN p.acts[k].params[n] args[n].1 args[n].2=z at hK hN hlo
      replace hK:=aa hK
      clear hs1 hFn hF kbr n0 n1 m0 u
      have hX:∀ d os,Hid (Calls prog 125 #[.agg #[.int .u64 args[n].1,.int .u64 args[n].2],.int .i64 p.acts[k].params[n]] (Ht (redrawn wr d) os) _):=fun d os=>aa (hK _)
      have hgw:=aE (show Below wr.heap.size wr wr from Hf _ _) (Hh _)
      have hB1:=He hl1 hsr
      have hB2:=He hl2 hsr
      have hB3:=He hb hsr
      have hB4:=He hg hsr
      have hB5:=He hg' hsr
      clear hK
      cases z with
      |false=>
       replace hlo:=aa (hlo.out rfl)
       go_wp2_with fail
       refine bV ?_
       repeat (any_goals (first|go_big_quiet_step ((go_at_call 125;with_reducible exact Hi (hX _ _).out))|quiet_step ((go_at_call 125;with_reducible exact Hi (hX _ _).out))))
       refine wpQuiet_nil ?_
       intro wq hwq
       replace hwq:=ac hwq
       go_wp2
       go_ret
       exact ⟨ad (by rw [hv.out,hv2.out,hlo.out]),hw.out.trans ((hbr.out.mono hw.out.size).trans (hwq.mono (Hj hw.out.size hsr)))⟩
      |true=>
       go_wp2_with fail
       refine bV ?_
       repeat (any_goals (first|go_big_quiet_step ((go_at_call 125;with_reducible exact Hi (hX _ _).out))|quiet_step ((go_at_call 125;with_reducible exact Hi (hX _ _).out))))
       refine wpQuiet_nil ?_
       intro wq hwq
       replace hwq:=ac hwq
       go_wp2
       go_roundw
       case rel=>exact ⟨n+1,by omega,by go_num,hN,aa (hbr.out.trans (hwq.mono hsr))⟩
       case measure=>simp [intOf];omega
     ·have hke:n=args.length:=by omega
      subst hke
      go_wp2
      go_ret
      exact ⟨ad (by rw [hv.out,hv2.out,hc.out]),hw.out.trans (hbr.out.mono hw.out.size)⟩
   ·have hez:((args.length:Int) !=(p.acts[k].params.length:Int))=true:=by rw [bne_iff_ne];omega
    have hv2:=aa (show ci gC args p.acts[k].params=false from by unfold ci;rw [decide_eq_false he,Hg])
    go_wp2_with fail
    go_quiet ((go_at_call 122;with_reducible exact de (hCt.out _)))
    go_wp2
    go_ret
    exact ⟨ad (by rw [hv.out,hv2.out]),hwd.out _⟩
  ·rw [decide_eq_false hm] at hCt
   simp only [decide_eq_false hm,Hg] at hv
   clear hm
   go_wp2_with fail
   go_quiet ((go_at_call 122;with_reducible exact de (hCt.out _)))
   go_wp2
   go_ret
   exact ⟨ad hv.out.symm,hwd.out _⟩
 rotate_right
 focus
  have hv:=aa (AJ (p:=p) (l:=l) (r:=⟨act,args⟩) e1)
  have hwd:=aa (fun m=>hw.out.trans (au (Hf wa.heap.size wa|>.mono hw.out.size) m))
  by_cases ha:act<0
  have d1:decide (act<0)=true:=decide_eq_true ha
  rotate_right
  have d1:decide (act<0)=false:=decide_eq_false ha
  have d2:decide ((p.acts.length:Int)≤act)=true:=decide_eq_true (by omega)
 all_goals
  go_wp2_with fail
  go_quiet (fail)
  go_wp2
  go_ret
  exact ⟨ad hv.out.symm,hwd.out _⟩
def fT:CR aR:=fun w B cs x=>∃ A1 c1 A2 c2,cs= [.int .i64 x.tab,.slice A1 x.pats.length c1,.int .i64 x.len,.int .i64 x.prio,.int .i64 x.run.act,.slice A2 x.run.args.length c2]∧Sl 4 mR w B A1 x.pats∧Sl 2 ke w B A2 x.run.args
theorem bh:gH fT:=⟨fun ⟨A1,c1,A2,c2,e,h1,h2⟩ hk=>⟨A1,c1,A2,c2,e,h1.keep aL hk,h2.keep aw hk⟩,fun ⟨A1,c1,A2,c2,e,h1,h2⟩ hB=>⟨A1,c1,A2,c2,e,h1.more aL hB,h2.more aw hB⟩⟩
abbrev fh:CR (List aR):=oD 6 fT
theorem aQ:gH fh:=eE bh
abbrev sf (A1:Option Addr) (c1:Nat) (A2:Option Addr) (c2:Nat) (x:aR):Value:=.agg #[.int .i64 x.tab,.slice A1 x.pats.length c1,.int .i64 x.len,.int .i64 x.prio,.int .i64 x.run.act,.slice A2 x.run.args.length c2]
theorem Sl.ent {w:World} {B:Nat} {A:Option Addr} {xs:List aR} (h:Sl 6 fT w B A xs) {i:Nat} (hi:i<xs.length):∃ b o A1 A2 c1 c2,A=some ⟨b,o,none⟩∧b<B∧
  w.cell? ⟨b,o+i*6,none⟩=some (.int .i64 xs[i].tab)∧w.cell? ⟨b,o+i*6+1,none⟩=some (.slice A1 xs[i].pats.length c1)∧w.cell? ⟨b,o+i*6+2,none⟩=some (.int .i64 xs[i].len)∧w.cell? ⟨b,o+i*6+3,none⟩=some (.int .i64 xs[i].prio)∧w.cell? ⟨b,o+i*6+4,none⟩=some (.int .i64 xs[i].run.act)∧w.cell? ⟨b,o+i*6+5,none⟩=some (.slice A2 xs[i].run.args.length c2)∧Sl 4 mR w B A1 xs[i].pats∧Sl 2 ke w B A2 xs[i].run.args:=by
 obtain ⟨b,o,ecs,hA,hb,hl,hc,A1,c1,A2,c2,rfl,h1,h2⟩:=h.2 i xs[i] (Hn hi)
 exact ⟨b,o,A1,A2,c1,c2,hA,hb,hc 0 _ rfl,hc 1 _ rfl,hc 2 _ rfl,hc 3 _ rfl,hc 4 _ rfl,hc 5 _ rfl,h1,h2⟩
theorem Sl.pt {w:World} {B:Nat} {A:Option Addr} {xs:List Pt} (h:Sl 4 mR w B A xs) {i:Nat} (hi:i<xs.length):∃ b o,A=some ⟨b,o,none⟩∧b<B∧
  w.cell? ⟨b,o+i*4,none⟩=some (.int .u64 xs[i].vh)∧w.cell? ⟨b,o+i*4+1,none⟩=some (.int .u64 xs[i].vl)∧w.cell? ⟨b,o+i*4+2,none⟩=some (.int .u64 xs[i].mh)∧w.cell? ⟨b,o+i*4+3,none⟩=some (.int .u64 xs[i].ml)∧em xs[i]:=by
 obtain ⟨b,o,ecs,hA,hb,hl,hc,rfl,h1,h2,h3,h4⟩:=h.2 i xs[i] (Hn hi)
 exact ⟨b,o,hA,hb,hc 0 _ rfl,hc 1 _ rfl,hc 2 _ rfl,hc 3 _ rfl,h1,h2,h3,h4⟩
theorem Sl.okPts {w:World} {B:Nat} {A:Option Addr} {xs:List Pt} (h:Sl 4 mR w B A xs):∀ x∈xs,em x:=fun x hx=>by
 obtain ⟨i,hi,rfl⟩:=List.mem_iff_getElem.1 hx
 obtain ⟨-,-,-,-,-,-,-,-,h⟩:=h.pt hi
 exact h
theorem Sl.okNus {w:World} {B:Nat} {A:Option Addr} {xs:List (Int×Int)} (h:Sl 2 ke w B A xs):∀ x∈xs,aI x.1∧aI x.2:=fun x hx=>by
 obtain ⟨i,hi,rfl⟩:=List.mem_iff_getElem.1 hx
 obtain ⟨-,-,-,-,-,-,h⟩:=h.num hi
 exact h
def kC (x y:Pt):Bool:=decide (x.vh=y.vh)&&(decide (x.vl=y.vl)&&(decide (x.mh=y.mh)&&decide (x.ml=y.ml)))
def iw (x y:Int×Int):Bool:=decide (x.1=y.1)&&decide (x.2=y.2)
def dY (x y:aR):Bool:=decide (x.tab=y.tab)&&(ci kC x.pats y.pats&&(decide (x.len=y.len)&&(decide (x.prio=y.prio)&&(decide (x.run.act=y.run.act)&&ci iw x.run.args y.run.args))))
def pC (x y:List aR):Bool:=ci dY x y
theorem qQ {α:Type} {f:α→α→Bool} (hf:∀ x y,f x y=true↔x=y) (xs ys:List α):ci f xs ys=true↔xs=ys:=by
 unfold ci
 rw [Hl,decide_eq_true_eq,aF]
 constructor
 ·rintro ⟨h1,h2⟩
  refine List.ext_getElem h1 fun i a b=> ?_
  have:=h2 i a
  rw [ag _ a,ag _ b] at this
  exact (hf _ _).1 this
 ·rintro rfl
  refine ⟨rfl,fun i hi=> ?_⟩
  rw [ag _ hi,ag _ hi]
  exact (hf _ _).2 rfl
theorem CY (x y:Pt):kC x y=true↔x=y:=by
 obtain ⟨a,b,c,d⟩:=x
 obtain ⟨e,f,g,h⟩:=y
 simp [kC]
theorem CZ (x y:Int×Int):iw x y=true↔x=y:=by
 obtain ⟨a,b⟩:=x
 obtain ⟨c,d⟩:=y
 simp [iw]
theorem AM (x y:aR):dY x y=true↔x=y:=by
 obtain ⟨a,b,c,d,e,f⟩:=x
 obtain ⟨a',b',c',d',e',f'⟩:=y
 unfold dY
 simp only [Hl,decide_eq_true_eq,qQ CY,qQ CZ,aR.mk.injEq,Rn.mk.injEq]
theorem xK (x y:List aR):pC x y=true↔x=y:=qQ AM x y
theorem nG (x:List aR):pC x x=true:=(xK x x).2 rfl
theorem iK {w:World} {a:Nat} {v0 v1 v2 v3 v4 v5:Value} (h:∀ i,w.cell? ⟨a,i,none⟩=(#[v0,v1,v2,v3,v4,v5]:Array Value)[i]?):
  w.cell? ⟨a,0,none⟩=some v0∧w.cell? ⟨a,1,none⟩=some v1∧w.cell? ⟨a,2,none⟩=some v2∧w.cell? ⟨a,3,none⟩=some v3∧w.cell? ⟨a,4,none⟩=some v4∧w.cell? ⟨a,5,none⟩=some v5:=⟨h 0,h 1,h 2,h 3,h 4,h 5⟩
theorem AO {p:Lp} {e:aR} (h:eG p.tabs e.tab=none):gm p e=false∧cC p e=false:=by unfold gm cC;rw [h];exact ⟨rfl,rfl⟩
theorem C0 {p:Lp} {e:aR} {t:eF} (h:eG p.tabs e.tab=some t):gm p e=(gS e&&(decide (e.pats.length=t.keys.length)&&(dD p t.acts e.run&&decide (cQ (fun i x n=>fD (m7 p t i) (cB t i) x n) 0 e.pats 0=some e.len)))):=by unfold gm;rw [h]
theorem C1 {p:Lp} {e:aR} {t:eF} (h:eG p.tabs e.tab=some t):cC p e=(gS e&&(decide (e.pats.length=t.keys.length)&&(dD p t.acts e.run&&decide (cQ (fun i x n=>xA (Ek p t i) (cB t i) x n) 0 e.pats 0=some e.len)))):=by unfold cC;rw [h]
theorem Ey {p:Lp} {t:eF} {i:Nat} (h:i<t.keys.length):m7 p t i=(fk p (-1) t.keys[i]).getD 0:=by unfold m7;rw [Hn h];rfl
theorem Ez {p:Lp} {t:eF} {i:Nat} (h:i<t.keys.length):Ek p t i=(jm p (-1) t.keys[i]).getD 0:=by unfold Ek;rw [Hn h];rfl
theorem nH {t:eF} {i:Nat} (h:i<t.kinds.length):cB t i=t.kinds[i]:=by unfold cB;rw [HT,Hn h];rfl
theorem pD {e:aR} (h:¬0≤e.prio):gS e=false:=by unfold gS;rw [decide_eq_false h];rfl
theorem pE {e:aR} (h:¬e.prio≤65536):gS e=false:=by unfold gS;rw [decide_eq_false h,Bool.and_false]
theorem pF {e:aR} (h:0≤e.prio) (h2:e.prio≤65536):gS e=true:=by unfold gS;rw [decide_eq_true h,decide_eq_true h2];rfl
section
open Go.Lib
def bu:List Nat→Nat→List Nat×Nat
 | [],c=>([],c)
 |d::l,c=>((2*d+(bu l c).2) % 10::(bu l c).1,(2*d+(bu l c).2) / 10)
theorem en:∀ (l:List Nat) (c:Nat),(bu l c).1.length=l.length
 | [],_=>rfl
 |d::l,c=>by simp [bu,en l c]
theorem dZ:∀ (l:List Nat) (c:Nat),c≤1→(∀ d∈l,d<10)→(bu l c).2≤1∧∀ d∈(bu l c).1,d<10
 | [],c,hc,_=>⟨hc,fun d h=>by simp [bu] at h⟩
 |d::l,c,hc,h=>by
  obtain ⟨h1,h2⟩:=dZ l c hc fun x hx=>h x (HI _ hx)
  have:=h d HE
  refine ⟨by simp only [bu];omega,fun x hx=> ?_⟩
  simp only [bu,HD] at hx
  rcases hx with rfl|hx
  ·omega
  ·exact h2 x hx
theorem nI (d:Nat):∀ (l:List Nat),jX (d::l)=d*10 ^ l.length+jX l:=by
 have key:∀ (l:List Nat) (a:Nat),l.foldl (fun a d=>a*10+d) a=a*10 ^ l.length+jX l:=by
  intro l
  induction l with
  |nil=>intro a;simp [jX]
  |cons x l ih=>
   intro a
   unfold jX at ih ⊢
   rw [List.foldl_cons,List.foldl_cons,ih,ih (0*10+x),Hp,Nat.pow_succ]
   rw [Nat.add_mul,Nat.zero_mul,HS,Nat.mul_assoc,Nat.mul_comm 10]
   omega
 intro l
 have:=key l d
 unfold jX at this ⊢
 rw [List.foldl_cons,Nat.zero_mul,HS]
 exact this
theorem sg:∀ (l:List Nat) (c:Nat),(bu l c).2*10 ^ l.length+jX (bu l c).1=2*jX l+c
 | [],c=>by simp [bu,jX]
 |d::l,c=>by
  have ih:=sg l c
  simp only [bu]
  rw [nI,nI,en,Hp,Nat.pow_succ]
  generalize (bu l c).2=e at*
  generalize jX (bu l c).1=v at*
  generalize 10 ^ l.length=p at*
  have h:=Nat.div_add_mod (2*d+e) 10
  generalize (2*d+e) / 10=q at*
  generalize (2*d+e) % 10=r at*
  have h1:q*(p*10)+r*p=(10*q+r)*p:=by rw [Nat.add_mul,Nat.mul_comm p 10,←Nat.mul_assoc,Nat.mul_comm q 10]
  rw [←Nat.add_assoc,h1,h,Nat.add_mul,Nat.add_assoc,ih,Nat.mul_add,Nat.mul_assoc]
  omega
def iL (l:List Nat) (c:Nat):List Nat:=if (bu l c).2=0 then (bu l c).1 else (bu l c).2::(bu l c).1
theorem pG (l:List Nat) (c:Nat):jX (iL l c)=2*jX l+c:=by
 have h:=sg l c
 unfold iL
 by_cases hz:(bu l c).2=0
 ·rw [if_pos hz];rw [hz] at h;omega
 ·rw [if_neg hz,nI,en];exact h
theorem sh {l:List Nat} {c:Nat} (h:ui l) (hc:c≤1):ui (iL l c):=by
 obtain ⟨h0,h1,h2⟩:=h
 obtain ⟨k1,k2⟩:=dZ l c hc h1
 unfold iL
 by_cases hz:(bu l c).2=0
 ·rw [if_pos hz]
  refine ⟨fun e=>h0 (H8 (by rw [←en l c,e];rfl)),k2,?_⟩
  rw [en]
  rcases h2 with h2|h2
  ·exact .inl h2
  ·right
   cases l with
   |nil=>exact absurd rfl h0
   |cons d l=>
    simp only [bu,List.headD_cons] at hz h2 ⊢
    omega
 ·rw [if_neg hz]
  refine ⟨by simp,fun d hd=> ?_,.inr (by simpa using hz)⟩
  rcases HD.1 hd with rfl|hd
  ·omega
  ·exact k2 d hd
theorem kD {l:List Nat} {k c:Nat} (hk:k<l.length):bu (l.drop k) c=((2*l[k]+(bu (l.drop (k+1)) c).2) % 10::(bu (l.drop (k+1)) c).1,(2*l[k]+(bu (l.drop (k+1)) c).2) / 10):=by
 rw [H4 hk];rfl
def kE (l:List Nat) (c k:Nat):List Nat:=l.take k++(bu (l.drop k) c).1
theorem jA (l:List Nat) (c k:Nat):(kE l c k).length=l.length:=by
 unfold kE;rw [Hu,en,HF,H1];omega
theorem we {l:List Nat} {c k:Nat} (hk:k<l.length):(kE l c (k+1))[k]? =some l[k]:=by
 unfold kE
 rw [List.getElem?_append_left (by rw [HF];omega),List.getElem?_take_of_lt (by omega),Hn hk]
theorem si {l:List Nat} {c k:Nat} (hk:k<l.length):(kE l c (k+1)).set k ((2*l[k]+(bu (l.drop (k+1)) c).2) % 10)=kE l c k:=by
 unfold kE
 rw [kD hk]
 simp only
 rw [HR hk,HP,List.set_append_right _ _ (by rw [HF];omega),HF,Nat.min_eq_left (Hs hk),Nat.sub_self]
 rfl
theorem sj (l:List Nat) (c:Nat):kE l c l.length=l:=by unfold kE;simp [bu]
theorem pH (l:List Nat) (c:Nat):kE l c 0=(bu l c).1:=by unfold kE;simp
theorem EB {l:List Nat} (h:ui l) (hv:jX l<2 ^ 128):l.length≤39:=by
 have e:=uj l.length l rfl h
 have h1:=congrArg List.length e
 rw [Hz] at h1
 have key:∀ (k u:Nat),u<10 ^ (k+1)→(decDigits u).length≤k+1:=by
  intro k
  induction k with
  |zero=>intro u h;rw [decDigits,dif_pos (by simpa using h)];simp
  |succ k ih=>
   intro u h
   by_cases h1:u<10
   ·rw [decDigits,dif_pos h1];simp
   ·rw [decDigits,dif_neg h1,Hu]
    have:=ih (u / 10) (by rw [Nat.pow_succ] at h;omega)
    simp;omega
 have:=key 38 (jX l) (by omega)
 omega
theorem uA {hi lo:Int} (h1:aI hi) (h2:aI lo) (j:Nat):nv hi lo / 2 ^ j=2*(nv hi lo / 2 ^ (j+1))+(if nB hi lo j then 1 else 0):=by
 rw [vR h1 h2]
 generalize nv hi lo=X
 rw [Nat.pow_succ,←Nat.div_div_eq_div_mul,Nat.testBit_eq_decide_div_mod_eq]
 generalize X / 2 ^ j=y
 by_cases h:y % 2=1
 ·rw [decide_eq_true h,if_pos rfl];omega
 ·rw [decide_eq_false h,if_neg (by decide)];omega
end
section
attribute [local go_sem ↓] ip fP
def E5 (n k j:Nat):Value:=.bool (decide (j<k)&&decide (j<n))
def C2 (n k:Nat):Array Value:=((HJ 128).map (E5 n k)).toArray
theorem jB (n k j:Nat) (hj:j<128):(C2 n k)[j]? =some (E5 n k j):=by simp [C2,hj]
theorem fU (n k:Nat):(C2 n k).size=128:=by simp [C2]
theorem AQ (n:Nat):C2 n 0=Tryz.zeroCells178:=by
 rw [←pg 0 0]
 refine eM (fU _ _) (aO _ _ _) fun j hj=> ?_
 rw [jB _ _ _ hj,bJ _ _ _ _ hj]
 simp [E5,fM,ph]
theorem AT (n:Nat) {k:Nat} (hk:k<128):(C2 n k).setIfInBounds k (.bool (decide (k<n)))=C2 n (k+1):=
 eM (by simp [fU]) (fU _ _) fun j hj=>by
  rw [Ih,jB _ _ _ hj,jB _ _ _ hj]
  simp only [fU]
  by_cases h:k=j
  ·subst h;simp [E5,hk]
  ·rw [if_neg h]
   have:decide (j<k)=decide (j<k+1):=by rw [decide_eq_decide];omega
   simp [E5,this]
theorem sn (n j:Nat):bF (aX n) j=decide (j+64<n)∧bF (aP n) j=(decide (j<64)&&decide (j<n)):=by
 have hp:∀ m:Nat,bF (2 ^ m-1) j=decide (j<m):=fun m=>by
  have e:((2:Int) ^ m-1)=((2 ^ m-1:Nat):Int):=by
   have:=Nat.pow_pos (n:=m) (show 0<2 by decide)
   rw [Int.ofNat_sub this];simp
  rw [e,e9,Nat.testBit_two_pow_sub_one]
 unfold aX aP
 by_cases h:n≤64
 ·rw [if_pos h,if_pos h,ph,hp,decide_eq_false (show ¬j+64<n by omega)]
  refine ⟨rfl,?_⟩
  rw [Hr];simp only [Hl,decide_eq_true_eq];omega
 ·rw [if_neg h,if_neg h,hp,show (18446744073709551615:Int)=2 ^ 64-1 from rfl,hp]
  refine ⟨?_,?_⟩
  ·rw [decide_eq_decide];omega
  ·rw [Hr];simp only [Hl,decide_eq_true_eq];omega
theorem C3 (n:Nat):C2 n 128=bi (aX n) (aP n) 64:=eM (fU _ _) (aO _ _ _) fun j hj=>by
 rw [jB _ _ _ hj,bJ _ _ _ _ hj]
 unfold E5 fM
 rw [(sn n j).2,(sn n (j-64)).1]
 by_cases h:j<64
 ·simp [h,hj]
 ·have:decide (j-64+64<n)=decide (j<n):=by rw [decide_eq_decide];omega
  simp [h,hj,this,show j<64+64 by omega]
theorem uB (z:Int) (w:World):Calls prog 72 #[.int .i64 z] w fun e w'=>e=.returned (.agg #[.int .u64 (aX (eN z)),.int .u64 (aP (eN z))])∧Below w.heap.size w w':=by
 obtain ⟨n,hn⟩:∃ n,eN z=n:=⟨_,rfl⟩
 have hz:∀ k:Nat,k<128→((k:Int)<z↔k<n):=fun k hk=>by rw [←hn];exact Ah z k hk
 have hN:Hid (∀ W,Calls prog 130 #[.agg (bi (aX n) (aP n) 64)] W fun e w'=>e=.returned (.agg #[.int .u64 (aX n),.int .u64 (aP n)])∧Below W.heap.size W w'):=aa (fun W=>kj (aX n) (aP n) W (by have:=mW z;exact (ma ⟨n,by omega⟩).2.1) (by have:=mW z;exact (ma ⟨n,by omega⟩).2.2))
 have hend:=aa (C3 n)
 rw [hn]
 clear hn
 obtain ⟨wb,hwb,hsb,hbb,hcb,-⟩:=ak w #[.int .u64 0,.int .u64 0] 61
 have hg1:=aa (show wb.heap[w.heap.size]? =some (.cells #[.int .u64 0,.int .u64 0] 61 (0,0)) by rw [←hwb];exact heap_alloc_last w _)
 have hbw:=aa hbb
 have hzb:w.heap.size<wb.heap.size:=by omega
 replace hsb:=aa hsb
 clear hcb hbb
 go_enter func72,ntmps72
 go_wp2
 rw [←AQ n]
 go_loopw [4] (fun i wr=>∃ k:Nat,k≤128∧i=.int .i64 k∧wr=wb.alloc (.cells (C2 n k) 178)) (fun i _=>128-(intOf i).toNat)
 case atStart=>exact ⟨0,Hm _,rfl,rfl⟩
 case round=>
  obtain ⟨k,hk,rfl,rfl⟩:=hrel
  have hs1:=fU n k
  by_cases hlt:k<128
  ·have hltz:(k:Int)<128:=by omega
   have hsucc:=AT n hlt
   have hc:=jB n k k hlt
   have hcmp:decide ((k:Int)<z)=decide (k<n):=by rw [decide_eq_decide];exact hz k hlt
   clear hs1
   replace hsucc:=aa hsucc
   go_wp2
   go_roundw
   case rel=>exact ⟨k+1,by omega,by go_num,by first|rw [hsucc.out]|rw [hcmp,hsucc.out]⟩
   case measure=>simp [intOf];omega
  ·obtain rfl:k=128:=by omega
   rw [hend.out]
   rw [hend.out] at hs1
   have hlast:=heap_alloc_last wb (.cells (bi (aX n) (aP n) 64) 178)
   have hbl:Below wb.heap.size wb (wb.alloc (.cells (bi (aX n) (aP n) 64) 178)):=(Hf _ _).alloc (Hh _) _
   obtain ⟨W,hW⟩:∃ W,wb.alloc (.cells (bi (aX n) (aP n) 64) 178)=W:=⟨_,rfl⟩
   rw [hW] at hlast hbl
   have hld:=iq hlast hs1
   have hzW:wb.heap.size≤W.heap.size:=hbl.size
   have hBW:=aa (hbw.out.trans (hbl.mono (Hs hzb)))
   have hgW:=aa ((hbl.block _ hzb).trans hg1.out)
   clear hs1 hlast hbl
   go_wp2_with fail
   refine (hN.out _).mono ?_
   rintro e w2 ⟨rfl,hb2⟩
   have hg2:w2.heap[w.heap.size]? =some (.cells #[.int .u64 0,.int .u64 0] 61 (0,0)):=(hb2.block _ (by omega)).trans hgW.out
   have hB2:=aa (hBW.out.trans (hb2.mono (by omega)))
   have k0:w2.cell? ⟨w.heap.size,0,none⟩=some (.int .u64 0):=by simp [World.cell?,hg2]
   have k1:w2.cell? ⟨w.heap.size,1,none⟩=some (.int .u64 0):=by simp [World.cell?,hg2]
   have f0:w2.frozen? ⟨w.heap.size,0,none⟩=false:=by simp [World.frozen?,hg2]
   have f1:w2.frozen? ⟨w.heap.size,1,none⟩=false:=by simp [World.frozen?,hg2]
   have hl2:w.heap.size<w2.heap.size:=by have:=hb2.size;omega
   clear hg2 hld
   go_wp2
   exact bodyPost_ret (v:=.agg #[.int .u64 (aX n),.int .u64 (aP n)]) (by simp [results,results72,go_sem,k0,k1,hl2]) rfl ⟨rfl,(hB2.out.setCell (Hh _) _).setCell (Hh _) _⟩
theorem AU (hi lo:Int) {j:Nat} (hj:j<128):(bi hi lo 64)[j]? =some (.bool (nB hi lo j)):=by
 rw [bJ _ _ _ _ hj]
 unfold fM nB
 by_cases h:j<64
 ·simp [h]
 ·simp [h,show j<64+64 by omega]
theorem pI (hi lo:Int) (j:Nat) (w:World) (hh:aI hi) (hl:aI lo) (hj:j<128):Calls prog 129 #[.agg #[.int .u64 hi,.int .u64 lo],.int .i64 (j:Int)] w fun e w'=>e=.returned (.bool (nB hi lo j))∧Below w.heap.size w w':=by
 have hB:=aa (fun W=>eZ hi lo W hh hl)
 have hr:=AU hi lo hj
 generalize nB hi lo j=R at hr ⊢
 obtain ⟨wa,hwa,hsa,hba,hca,-⟩:=ak w #[.int .u64 hi,.int .u64 lo] 61
 have y0:wa.cell? ⟨w.heap.size,0,none⟩=some (.int .u64 hi):=hca 0
 have y1:wa.cell? ⟨w.heap.size,1,none⟩=some (.int .u64 lo):=hca 1
 have hbw:=aa hba
 have hz:=aa (show w.heap.size≤wa.heap.size by omega)
 have d0:decide ((0:Int)≤(j:Int))=true:=decide_eq_true (by omega)
 have d1:decide ((j:Int)<128)=true:=decide_eq_true (by omega)
 have d2:(j:Int)<128:=by omega
 replace hsa:=aa hsa
 have hs:=aO hi lo 64
 have hrg:(bi hi lo 64)[j]'(by rw [aO];exact hj)=.bool R:=by rw [←Option.some_inj,←Array.getElem?_eq_getElem,hr]
 have ho:=fN hi lo 64
 clear hba hca hh hl
 go_enter func129,ntmps129
 go_wp2_with (go_at_call 137;refine (hB.out _).mono ?_;rintro e w1 ⟨rfl,hb1⟩;have hst:(kf (.pointer (some ⟨w1.heap.size,0,none⟩)) (.agg (bi hi lo 64))).run prog (w1.alloc (.cells Tryz.zeroCells178 178))=.ok () (w1.alloc (.cells (bi hi lo 64) 178)):=(by rw [dQ (heap_alloc_last w1 _) (by rfl) hs ho,World.setRow_alloc_new]))
 go_ret
 exact ⟨by simp [hrg],hbw.out.trans ((hb1.mono hz.out).trans ((Hf _ _).alloc (by have:=hb1.size;have:=hz.out;omega) _))⟩
end
theorem Fh:(64-(Lib.bitLen (10:Int).toNat:Int))=60:=by decide
theorem Fi {hi lo:Int} (h0:0≤hi) (h1:hi≤9) (h2:aI lo):bits .or .u64 (hi*1152921504606846976) (lo / 16)=hi*1152921504606846976+lo / 16:=by
 obtain ⟨a0,a1⟩:=h2
 obtain ⟨x,rfl⟩:=Hv h0
 obtain ⟨y,rfl⟩:=Hv a0
 have e1:((x:Int)*1152921504606846976)=((2 ^ 60*x:Nat):Int):=by omega
 have e2:((y:Int) / 16)=((y / 16:Nat):Int):=by omega
 rw [e1,e2,u64_or_nat _ _ (by omega) (by omega),←Nat.two_pow_add_eq_or_of_lt (show y / 16<2 ^ 60 by omega)]
 omega
theorem EC {L:Int} (h0:0≤L) (h1:L<18446744073709551616):bits .and .u64 L 4294967295=L % 4294967296:=by
 obtain ⟨x,rfl⟩:=Hv h0
 have e2:(4294967295:Int)=((2 ^ 32-1:Nat):Int):=by omega
 rw [e2,u64_and_nat x _ (by omega) (by omega),Nat.and_two_pow_sub_one_eq_mod]
 omega
theorem xL (hi lo:Int) (w:World) (h0:0≤hi) (h1:hi≤9) (h2:aI lo):Calls prog 134 #[.int .u64 hi,.int .u64 lo,.int .u64 10] w fun e w'=>e=.returned (.tuple #[.int .u64 ((hi*18446744073709551616+lo) / 10),.int .u64 ((hi*18446744073709551616+lo) % 10)])∧Below w.heap.size w w':=by
 have hor:=Fi h0 h1 h2
 obtain ⟨a0,a1⟩:=h2
 have n1:((10:Int)≤hi)=False:=by simp;omega
 have n2:decide ((10:Int)≤hi)=false:=by simp;omega
 by_cases hz:hi=0
 ·subst hz
  go_enter func134,ntmps134
  go_wp2
  go_quiet (fail)
  go_wp2
  refine bodyPost_ret (v:=.tuple #[.int .u64 (lo / 10),.int .u64 (lo % 10)]) (by simp [results,results134,go_sem]) rfl ⟨?_,au (Hf _ _) _⟩
  rw [Int.zero_mul,Int.zero_add]
 ·have n3:(hi==0)=false:=by simpa using hz
  obtain ⟨U,hU⟩:∃ U,bits .or .u64 (hi*1152921504606846976) (lo / 16)=U:=⟨_,rfl⟩
  have kU:U=hi*1152921504606846976+lo / 16:=by rw [←hU,hor]
  clear hor
  obtain ⟨q1,hq1⟩:∃ q1,IntKind.u64.wrap (U.tdiv 2684354560)=q1:=⟨_,rfl⟩
  have kq1:q1=U / 2684354560:=by rw [←hq1,Int.tdiv_eq_ediv_of_nonneg (by omega),IntKind.wrap_u64];omega
  obtain ⟨m1,hm1⟩:∃ m1,IntKind.u64.wrap (q1*2684354560)=m1:=⟨_,rfl⟩
  have km1:m1=q1*2684354560:=by rw [←hm1,IntKind.wrap_u64];omega
  obtain ⟨r1,hr1⟩:∃ r1,IntKind.u64.wrap (U-m1)=r1:=⟨_,rfl⟩
  have kr1:r1=U-m1:=by rw [←hr1,IntKind.wrap_u64];omega
  obtain ⟨L,hL⟩:∃ L,IntKind.u64.wrap (lo*1152921504606846976)=L:=⟨_,rfl⟩
  have kL:L=lo % 16*1152921504606846976:=by rw [←hL,IntKind.wrap_u64];omega
  obtain ⟨u1,hu1⟩:∃ u1,L / 4294967296=u1:=⟨_,rfl⟩
  have ku1:u1=lo % 16*268435456:=by omega
  have hL0:bits .and .u64 L 4294967295=0:=by rw [EC (by omega) (by omega)];omega
  have hY0:bits .and .u64 11529215046068469760 4294967295=0:=by decide
  obtain ⟨g1,hg1⟩:∃ g1,IntKind.u64.wrap (4294967296*r1)=g1:=⟨_,rfl⟩
  obtain ⟨g2,hg2⟩:∃ g2,IntKind.u64.wrap (g1+u1)=g2:=⟨_,rfl⟩
  have kg2:0≤g2:=by rw [←hg2,IntKind.wrap_u64];omega
  obtain ⟨v1,hv1⟩:∃ v1,IntKind.u64.wrap (U*4294967296)=v1:=⟨_,rfl⟩
  obtain ⟨v2,hv2⟩:∃ v2,IntKind.u64.wrap (v1+u1)=v2:=⟨_,rfl⟩
  obtain ⟨v3,hv3⟩:∃ v3,IntKind.u64.wrap (q1*11529215046068469760)=v3:=⟨_,rfl⟩
  obtain ⟨V,hV⟩:∃ V,IntKind.u64.wrap (v2-v3)=V:=⟨_,rfl⟩
  have kV:V=r1*4294967296+u1:=by
   rw [IntKind.wrap_u64] at hv1 hv2 hv3 hV
   omega
  obtain ⟨q0,hq0⟩:∃ q0,IntKind.u64.wrap (V.tdiv 2684354560)=q0:=⟨_,rfl⟩
  have kq0:q0=V / 2684354560:=by rw [←hq0,Int.tdiv_eq_ediv_of_nonneg (by omega),IntKind.wrap_u64];omega
  obtain ⟨m2,hm2⟩:∃ m2,IntKind.u64.wrap (q0*2684354560)=m2:=⟨_,rfl⟩
  obtain ⟨r0,hr0⟩:∃ r0,IntKind.u64.wrap (V-m2)=r0:=⟨_,rfl⟩
  obtain ⟨g3,hg3⟩:∃ g3,IntKind.u64.wrap (4294967296*r0)=g3:=⟨_,rfl⟩
  have kg3:0≤g3∧g3<18446744073709551616:=by rw [←hg3,IntKind.wrap_u64];omega
  have hg4:IntKind.u64.wrap g3=g3:=by rw [IntKind.wrap_u64];omega
  obtain ⟨f1,hf1⟩:∃ f1,IntKind.u64.wrap (q1*4294967296)=f1:=⟨_,rfl⟩
  obtain ⟨Q,hQ⟩:∃ Q,IntKind.u64.wrap (f1+q0)=Q:=⟨_,rfl⟩
  obtain ⟨f2,hf2⟩:∃ f2,IntKind.u64.wrap (V*4294967296)=f2:=⟨_,rfl⟩
  have hf2':IntKind.u64.wrap f2=f2:=by rw [←hf2,IntKind.wrap_u64,IntKind.wrap_u64];omega
  obtain ⟨f3,hf3⟩:∃ f3,IntKind.u64.wrap (q0*11529215046068469760)=f3:=⟨_,rfl⟩
  obtain ⟨f4,hf4⟩:∃ f4,IntKind.u64.wrap (f2-f3)=f4:=⟨_,rfl⟩
  obtain ⟨R,hR⟩:∃ R,f4 / 1152921504606846976=R:=⟨_,rfl⟩
  have kres:Hid (Q=(hi*18446744073709551616+lo) / 10∧R=(hi*18446744073709551616+lo) % 10):=by
   refine aa ?_
   have x1:Q=q1*4294967296+q0:=by rw [IntKind.wrap_u64] at hf1 hQ;omega
   have x2:f4=(V-q0*2684354560)*4294967296:=by rw [IntKind.wrap_u64] at hf2 hf3 hf4;omega
   omega
  have t1:decide ((4294967296:Int)≤q1)=false:=by simp;omega
  have t2:decide ((4294967296:Int)≤q0)=false:=by simp;omega
  have t3:decide (g2<0)=false:=by simp;omega
  have t4:decide (g3<0)=false:=by simp;omega
  clear kU kq1 km1 kr1 kL ku1 kg2 kV kq0 kg3
  go_enter func134,ntmps134
  go_wp2_with (go_at_call 169;refine (Tryz.bits_LeadingZeros64 10 _ (by decide) (by decide)).mono ?_;rintro e w' ⟨rfl,rfl⟩;rw [Fh])
  go_loop [15,16] (fun i r=>i=.int .u64 q1∧r=.int .u64 r1) (fun _ _=>0)
  case atStart=>exact ⟨rfl,rfl⟩
  case round=>
   obtain ⟨rfl,rfl⟩:=hrel
   go_wp2
   go_loop [16,18] (fun r i=>r=.int .u64 r0∧i=.int .u64 q0) (fun _ _=>0)
   case atStart=>exact ⟨rfl,rfl⟩
   case round=>
    obtain ⟨rfl,rfl⟩:=hrel
    go_wp2
    refine bodyPost_ret (v:=.tuple #[.int .u64 Q,.int .u64 R]) (by simp [results,results134,go_sem]) rfl ⟨?_,Hf _ _⟩
    rw [kres.out.1,kres.out.2]
end Go.Proofs.YtiebolhmdhdagaaGreatDoor

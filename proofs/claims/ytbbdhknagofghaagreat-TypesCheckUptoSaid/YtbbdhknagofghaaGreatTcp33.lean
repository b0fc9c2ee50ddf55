import Derived.Test.YtbbdhknagofghaaGreatTcp32
import Derived.Test.YtbbdhknagofghaaGreatTcp17
set_option linter.all false
set_option maxHeartbeats 4000000
set_option maxRecDepth 100000
open Go.Proofs.Tryz
namespace Go.Proofs.YtbbdhknagofghaaGreat
open _root_.Nat renaming lt_of_lt_of_le→Bg, zero_le→Bo
open _root_.Go.RowKit.Below renaming refl→Bi
open _root_.List renaming getElem?_eq_getElem→Bk
open _root_.Bool renaming true_and→Bt, false_and→Bu, and_assoc→BJ
open Go.RowKit
theorem xS {w:World} {B:Nat} {cs:List Value} {s:Sa} (h:wS w B cs s):∃ a0 a1 a2 a3 a4,cs= [a0,a1,a2,a3,a4]:=by
 obtain ⟨A1,c1,A2,c2,A3,c3,rfl,-⟩:=h
 exact ⟨_,_,_,_,_,rfl⟩
theorem xT {w:World} {B:Nat} {cs:List Value} {t:Ta} (h:wT w B cs t):∃ a0 a1 a2 a3 a4,cs= [a0,a1,a2,a3,a4]:=by
 obtain ⟨A1,c1,A2,c2,A3,c3,rfl,-⟩:=h
 exact ⟨_,_,_,_,_,rfl⟩
theorem vP {B:Nat} (w:World) (A1 A2 A3 A4 A5 A6 A7:Option Addr) (p:Pg) (c1 c2 c3 c4 c5 c6 c7:Nat) (hB:B≤w.heap.size) (h:bu w B A1 A2 A3 A4 A5 A6 A7 p):
  Calls prog 39 #[.agg (aq p A1 A2 A3 A4 A5 A6 A7 c1 c2 c3 c4 c5 c6 c7)] w fun r w'=>r=.returned (.bool (bg p))∧Below w.heap.size w w':=by
 unfold aq
 have l1:=h.1.len
 have l2:=h.2.len
 have l3:=h.3.len
 have l4:=h.4.len
 have l5:=h.5.len
 have l6:=h.6.len
 have l7:=h.7.len
 obtain ⟨wa,hwa,hsa,hba,hca,-⟩:=al w (aq p A1 A2 A3 A4 A5 A6 A7 c1 c2 c3 c4 c5 c6 c7) 30
 obtain ⟨y0,y1,y2,y3,y4,y5,y6⟩:=aF (w:=wa) (a:=w.heap.size) fun i=>hca i
 have hb0:Below wa.heap.size wa wa:=Bi _ _
 have hBk:=aa (show ∀ W,Below wa.heap.size wa W→Below w.heap.size w W from fun W hb=>hba.trans (hb.mono (by omega)))
 have hk:∀ W,Below wa.heap.size wa W→Below B w W:=fun W hb=>(hba.trans (hb.mono (by omega))).mono hB
 have hBW:∀ W,Below wa.heap.size wa W→B≤W.heap.size:=fun W hb=>by have:=hb.size;omega
 have hl0:w.heap.size<wa.heap.size:=by omega
 have hkp:∀ W,Below wa.heap.size wa W→bu W B A1 A2 A3 A4 A5 A6 A7 p:=fun W hb=>h.below (hk W hb)
 have q5:=aa (fun (W:World) (hb:Below wa.heap.size wa W)=>(fv p.metas A2 c2 W (hBW W hb) (hkp W hb).metas).mono (fun e w' h=>(⟨h.1,hb.trans (h.2.mono hb.size)⟩:e=_∧Below wa.heap.size wa w')))
 have q6:=aa (fun (W:World) (hb:Below wa.heap.size wa W)=>((show Calls prog 103 #[.slice A6 p.control.length c6,.int .i64 1] W fun r w'=>r=.returned (.bool (aY p.control 1))∧Below W.heap.size W w' from jM p.control (fun x _=>m6 x) A6 c6 W 1 (by omega) (hBW W hb) (hkp W hb).control)).mono (fun e w' h=>(⟨h.1,hb.trans (h.2.mono hb.size)⟩:e=_∧Below wa.heap.size wa w')))
 have q7:=aa (fun (W:World) (hb:Below wa.heap.size wa W)=>(gl p.emit A7 c7 W (hBW W hb) (hkp W hb).emit).mono (fun e w' h=>(⟨h.1,hb.trans (h.2.mono hb.size)⟩:e=_∧Below wa.heap.size wa w')))
 have hP:=aa (hkp wa hb0)
 have hv0:bg p=(decide (p.headers.length≤8)&&(decide (p.metas.length≤16)&&(decide (1≤p.states.length)&&(decide (p.states.length≤16)&&(decide (p.actions.length≤16)&&(decide (p.tables.length≤8)&&(decide (p.emit.length≤8)&&(p.headers.all iJ&&(p.states.all lT&&(p.actions.all nB&&(p.tables.all ob&&(p.metas.all gB&&(aY p.control 1&&p.emit.all av))))))))))))):=by
  simp only [bg,qo,Bool.decide_and,BJ]
  cases p.headers.all iJ<;>cases p.metas.all gB<;>cases p.states.all lT<;>cases p.actions.all nB<;>cases p.tables.all ob<;>simp
 generalize p.metas.all gB=z5 at q5 hv0
 generalize aY p.control 1=z6 at q6 hv0
 generalize p.emit.all av=z7 at q7 hv0
 clear hca hba hk hBW hkp h hsa
 go_enter func39,ntmps39
 by_cases n0:p.headers.length≤8
 focus
  rw [decide_eq_true n0,Bt] at hv0
  have i0:(p.headers.length:Int)≤8:=by omega
  have j0:¬((8:Int)<(p.headers.length:Int)):=by omega
  by_cases n1:p.metas.length≤16
  focus
   rw [decide_eq_true n1,Bt] at hv0
   have i1:(p.metas.length:Int)≤16:=by omega
   have j1:¬((16:Int)<(p.metas.length:Int)):=by omega
   by_cases n2:1≤p.states.length
   focus
    rw [decide_eq_true n2,Bt] at hv0
    have i2:1≤(p.states.length:Int):=by omega
    have j2:¬((p.states.length:Int)<1):=by omega
    by_cases n3:p.states.length≤16
    focus
     rw [decide_eq_true n3,Bt] at hv0
     have i3:(p.states.length:Int)≤16:=by omega
     have j3:¬((16:Int)<(p.states.length:Int)):=by omega
     by_cases n4:p.actions.length≤16
     focus
      rw [decide_eq_true n4,Bt] at hv0
      have i4:(p.actions.length:Int)≤16:=by omega
      have j4:¬((16:Int)<(p.actions.length:Int)):=by omega
      by_cases n5:p.tables.length≤8
      focus
       rw [decide_eq_true n5,Bt] at hv0
       have i5:(p.tables.length:Int)≤8:=by omega
       have j5:¬((8:Int)<(p.tables.length:Int)):=by omega
       by_cases n6:p.emit.length≤8
       focus
        rw [decide_eq_true n6,Bt] at hv0
        have i6:(p.emit.length:Int)≤8:=by omega
        have j6:¬((8:Int)<(p.emit.length:Int)):=by omega
        have hv:=aa hv0
        clear hv0
        go_wp2
        have hbp:=aa hb0
        clear hb0
        go_loopw [3] (fun i wr=>∃ k:Nat,k≤p.headers.length∧i=.int .i64 k∧Hid ((p.headers.take k).all iJ=true)∧Hid (Below wa.heap.size wa wr)) (fun i _=>p.headers.length-(intOf i).toNat)
        case atStart=>exact ⟨0,Bo _,rfl,aa (by simp),hbp⟩
        case round=>
         clear hbp
         obtain ⟨k,hkk,rfl,hq,hbr⟩:=hrel
         have hc:=ab hbr.out
         have hzr:=hbr.out.size
         by_cases hlt:k<p.headers.length
         ·have hltz:(k:Int)<(p.headers.length:Int):=by omega
          have hnx:=aa (fun h=>ci (p:=iJ) hlt hq.out h)
          have hst:=aa (fun h=>bT (p:=iJ) hlt h)
          obtain ⟨b,o,ecs,hA,hb,hel,hcell,FA,fc,rfl,hn,hF⟩:=(hP.out.headers).2 k _ (Bk hlt)
          subst hA
          have hbw:b<wa.heap.size:=by omega
          have hfl:=hF.len
          have hdd:iJ p.headers[k]=(av p.headers[k].name&&(decide (1≤p.headers[k].fields.length)&&(decide (p.headers[k].fields.length≤16)&&p.headers[k].fields.all gB))):=by
           simp only [iJ,Bool.decide_and,BJ]
          rw [hdd] at hnx hst
          clear hdd
          generalize p.headers[k]=x at hcell hF hfl hnx hst hn hel
          have x0:wa.cell? ⟨b,o+k*2,none⟩=some (.string x.name):=by simpa using hcell 0 _ rfl
          have x1:wa.cell? ⟨b,o+k*2+1,none⟩=some (.slice FA x.fields.length fc):=hcell 1 _ rfl
          obtain ⟨ws,hws,hszs,hwS,hcs,-⟩:=al wr #[.string x.name,.slice FA x.fields.length fc] 66
          have v0:ws.cell? ⟨wr.heap.size,0,none⟩=some (.string x.name):=hcs 0
          have v1:ws.cell? ⟨wr.heap.size,1,none⟩=some (.slice FA x.fields.length fc):=hcs 1
          have hbs:=hbr.out.trans (hwS.mono hzr)
          have ks:=ab hbs
          have hzs:wa.heap.size≤ws.heap.size:=hbs.size
          have zz1:wr.heap.size<ws.heap.size:=by omega
          have zz2:w.heap.size<ws.heap.size:=by omega
          have hbs':=aa hbs
          have g1:Calls prog 100 #[.string x.name] ws fun e w'=>e=.returned (.bool (av x.name))∧(Below ws.heap.size ws w'∧Below wa.heap.size wa w'):=(bG x.name ws).mono fun e w' h=>⟨h.1,h.2,hbs'.out.trans (h.2.mono hzs)⟩
          have g2:=aa (fun (W:World) (hb:Below wa.heap.size wa W)=>(fv x.fields FA fc W (B:=wa.heap.size) hb.size ((hF.below bA (hb.mono (by omega))).more bA (by omega))).mono (fun e w' h=>(⟨h.1,hb.trans (h.2.mono hb.size)⟩:e=_∧Below wa.heap.size wa w')))
          generalize av x.name=y1 at g1 hnx hst
          generalize x.fields.all gB=y2 at g2 hnx hst
          clear hcs hwS hszs hcell hel hn hF hbs
          cases y1 with
          |false=>
           have hres:=aa (hst.out (by simp []))
           clear hnx hst
           go_wp2_with (first|(go_at_call 100;refine g1.mono ?_;rintro e w4 ⟨rfl,hb4,hbw4⟩;have k4:=ab hb4;have z4a:=Bg zz1 hb4.size;have z4b:=Bg zz2 hb4.size)|(go_at_call 101;refine (g2.out _ hbw4).mono ?_;rintro e w5 ⟨rfl,hbw5⟩))
           go_ret
           exact ⟨ah (hv.out.trans (by rw [hres.out];simp)).symm,hBk.out _ ‹_›⟩
          |true=>
           by_cases n1b:1≤x.fields.length
           ·have i1b:1≤(x.fields.length:Int):=by omega
            have j1b:¬((x.fields.length:Int)<1):=by omega
            by_cases n2b:x.fields.length≤16
            ·have i2b:(x.fields.length:Int)≤16:=by omega
             have j2b:¬((16:Int)<(x.fields.length:Int)):=by omega
             cases y2 with
             |false=>
              have hres:=aa (hst.out (by simp []))
              clear hnx hst
              go_wp2_with (first|(go_at_call 100;refine g1.mono ?_;rintro e w4 ⟨rfl,hb4,hbw4⟩;have k4:=ab hb4;have z4a:=Bg zz1 hb4.size;have z4b:=Bg zz2 hb4.size)|(go_at_call 101;refine (g2.out _ hbw4).mono ?_;rintro e w5 ⟨rfl,hbw5⟩))
              go_ret
              exact ⟨ah (hv.out.trans (by rw [hres.out];simp)).symm,hBk.out _ ‹_›⟩
             |true=>
              have hres:=aa (hnx.out (by simp [n1b,n2b]))
              clear hnx hst
              go_wp2_with (first|(go_at_call 100;refine g1.mono ?_;rintro e w4 ⟨rfl,hb4,hbw4⟩;have k4:=ab hb4;have z4a:=Bg zz1 hb4.size;have z4b:=Bg zz2 hb4.size)|(go_at_call 101;refine (g2.out _ hbw4).mono ?_;rintro e w5 ⟨rfl,hbw5⟩))
              go_roundw
              case rel=>exact ⟨k+1,by omega,by go_num,hres,aa ‹_›⟩
              case measure=>simp [intOf];omega
            ·have i2b:¬((x.fields.length:Int)≤16):=by omega
             have j2b:(16:Int)<(x.fields.length:Int):=by omega
             have hres:=aa (hst.out (by simp [n2b]))
             clear hnx hst
             go_wp2_with (first|(go_at_call 100;refine g1.mono ?_;rintro e w4 ⟨rfl,hb4,hbw4⟩;have k4:=ab hb4;have z4a:=Bg zz1 hb4.size;have z4b:=Bg zz2 hb4.size)|(go_at_call 101;refine (g2.out _ hbw4).mono ?_;rintro e w5 ⟨rfl,hbw5⟩))
             go_ret
             exact ⟨ah (hv.out.trans (by rw [hres.out];simp)).symm,hBk.out _ ‹_›⟩
           ·have i1b:¬(1≤(x.fields.length:Int)):=by omega
            have j1b:(x.fields.length:Int)<1:=by omega
            have hres:=aa (hst.out (by simp [n1b]))
            clear hnx hst
            go_wp2_with (first|(go_at_call 100;refine g1.mono ?_;rintro e w4 ⟨rfl,hb4,hbw4⟩;have k4:=ab hb4;have z4a:=Bg zz1 hb4.size;have z4b:=Bg zz2 hb4.size)|(go_at_call 101;refine (g2.out _ hbw4).mono ?_;rintro e w5 ⟨rfl,hbw5⟩))
            go_ret
            exact ⟨ah (hv.out.trans (by rw [hres.out];simp)).symm,hBk.out _ ‹_›⟩
         ·have hAll1:=aa (cJ hq.out hlt)
          go_wp2
          have hbp:=hbr
          clear hbr hq hlt hkk hc hzr
          go_loopw [5] (fun i wr=>∃ k:Nat,k≤p.states.length∧i=.int .i64 k∧Hid ((p.states.take k).all lT=true)∧Hid (Below wa.heap.size wa wr)) (fun i _=>p.states.length-(intOf i).toNat)
          case atStart=>exact ⟨0,Bo _,rfl,aa (by simp),hbp⟩
          case round=>
           clear hbp
           obtain ⟨k,hkk,rfl,hq,hbr⟩:=hrel
           have hc:=ab hbr.out
           have hzr:=hbr.out.size
           by_cases hlt:k<p.states.length
           ·have hltz:(k:Int)<(p.states.length:Int):=by omega
            have hnx:=aa (fun h=>ci (p:=lT) hlt hq.out h)
            have hst:=aa (fun h=>bT (p:=lT) hlt h)
            obtain ⟨b,o,ecs,hA,hb,hel,hcell,hr⟩:=(hP.out.states).2 k _ (Bk hlt)
            subst hA
            have hbw:b<wa.heap.size:=by omega
            obtain ⟨a0,a1,a2,a3,a4,hecs⟩:=xS hr
            have hX0:=m8 p.states[k] ecs wr (show B≤wr.heap.size by omega) (gE.keep hr fun q hq=>hbr.out.cell (Bg hq (by omega)))
            subst hecs
            obtain ⟨x0,x1,x2,x3,x4⟩:=cN hcell
            clear hcell hel hr
            generalize lT p.states[k]=z at hX0 hnx hst
            have hX:Calls prog 102 #[.agg #[a0,a1,a2,a3,a4]] wr fun r w'=>r=.returned (.bool z)∧Below wr.heap.size wr w':=hX0
            clear hX0
            cases z with
            |false=>
             have hres:=hst.out rfl
             clear hnx hst
             replace hres:=aa hres
             go_wp2_with (go_at_call 102;refine hX.mono ?_;rintro e w2 ⟨rfl,hb2⟩)
             go_ret
             exact ⟨ah (hv.out.trans (by rw [hAll1.out,hres.out];simp)).symm,hBk.out _ (hbr.out.trans (hb2.mono hzr))⟩
            |true=>
             have hres:=aa (hnx.out rfl)
             clear hnx hst
             go_wp2_with (go_at_call 102;refine hX.mono ?_;rintro e w2 ⟨rfl,hb2⟩)
             go_roundw
             case rel=>exact ⟨k+1,by omega,by go_num,hres,aa (hbr.out.trans (hb2.mono hzr))⟩
             case measure=>simp [intOf];omega
           ·have hAll2:=aa (cJ hq.out hlt)
            go_wp2
            have hbp:=hbr
            clear hbr hq hlt hkk hc hzr
            go_loopw [6] (fun i wr=>∃ k:Nat,k≤p.actions.length∧i=.int .i64 k∧Hid ((p.actions.take k).all nB=true)∧Hid (Below wa.heap.size wa wr)) (fun i _=>p.actions.length-(intOf i).toNat)
            case atStart=>exact ⟨0,Bo _,rfl,aa (by simp),hbp⟩
            case round=>
             clear hbp
             obtain ⟨k,hkk,rfl,hq,hbr⟩:=hrel
             have hc:=ab hbr.out
             have hzr:=hbr.out.size
             by_cases hlt:k<p.actions.length
             ·have hltz:(k:Int)<(p.actions.length:Int):=by omega
              have hnx:=aa (fun h=>ci (p:=nB) hlt hq.out h)
              have hst:=aa (fun h=>bT (p:=nB) hlt h)
              obtain ⟨b,o,ecs,hA,hb,hel,hcell,FA,fc,BA,bc,rfl,hn,hF,hBd⟩:=(hP.out.actions).2 k _ (Bk hlt)
              subst hA
              have hbw:b<wa.heap.size:=by omega
              have hfl:=hF.len
              have hbl:=hBd.len
              have hdd:nB p.actions[k]=(av p.actions[k].name&&(decide (p.actions[k].params.length≤8)&&(p.actions[k].params.all gB&&aY p.actions[k].body 1))):=by
               simp only [nB,BJ]
              rw [hdd] at hnx hst
              clear hdd
              generalize p.actions[k]=x at hcell hF hfl hBd hbl hnx hst hn hel
              obtain ⟨x0,x1,x2⟩:=dl hcell
              obtain ⟨ws,hws,hszs,hwS,hcs,-⟩:=al wr #[.string x.name,.slice FA x.params.length fc,.slice BA x.body.length bc] 72
              obtain ⟨v0,v1,v2⟩:=bF hcs
              have hbs:=hbr.out.trans (hwS.mono hzr)
              have ks:=ab hbs
              have hzs:wa.heap.size≤ws.heap.size:=hbs.size
              have zz1:wr.heap.size<ws.heap.size:=by omega
              have zz2:w.heap.size<ws.heap.size:=by omega
              have hbs':=aa hbs
              have g1:Calls prog 100 #[.string x.name] ws fun e w'=>e=.returned (.bool (av x.name))∧(Below ws.heap.size ws w'∧Below wa.heap.size wa w'):=(bG x.name ws).mono fun e w' h=>⟨h.1,h.2,hbs'.out.trans (h.2.mono hzs)⟩
              have g2:=aa (fun (W:World) (hs:Below ws.heap.size ws W) (hb:Below wa.heap.size wa W)=>(fv x.params FA fc W (B:=wa.heap.size) hb.size ((hF.below bA (hb.mono (by omega))).more bA (by omega))).mono (fun e w' h=>(⟨h.1,hs.trans (h.2.mono hs.size),hb.trans (h.2.mono hb.size)⟩:e=_∧(Below ws.heap.size ws w'∧Below wa.heap.size wa w'))))
              have g3:=aa (fun (W:World) (hb:Below wa.heap.size wa W)=>(jM (B:=wa.heap.size) x.body (fun s _=>m6 s) BA bc W 1 (by omega) hb.size ((hBd.below be (hb.mono (by omega))).more be (by omega))).mono (fun e w' h=>(⟨h.1,hb.trans (h.2.mono hb.size)⟩:e=_∧Below wa.heap.size wa w')))
              generalize av x.name=y1 at g1 hnx hst
              generalize x.params.all gB=y2 at g2 hnx hst
              generalize aY x.body 1=y3 at g3 hnx hst
              clear hcs hwS hszs hcell hel hn hF hBd hbs
              cases y1 with
              |false=>
               have hres:=aa (hst.out (by simp []))
               clear hnx hst
               go_wp2_with (first|(go_at_call 100;refine g1.mono ?_;rintro e w4 ⟨rfl,hb4,hbw4⟩;have k4:=ab hb4;have z4a:=Bg zz1 hb4.size;have z4b:=Bg zz2 hb4.size)|(go_at_call 101;refine (g2.out _ hb4 hbw4).mono ?_;rintro e w5 ⟨rfl,hb5,hbw5⟩;have k5:=ab hb5;have z5a:=Bg zz1 hb5.size;have z5b:=Bg zz2 hb5.size)|(go_at_call 103;refine (g3.out _ hbw5).mono ?_;rintro e w6 ⟨rfl,hbw6⟩))
               go_ret
               exact ⟨ah (hv.out.trans (by rw [hAll1.out,hAll2.out,hres.out];simp)).symm,hBk.out _ ‹_›⟩
              |true=>
               by_cases n1b:x.params.length≤8
               ·have i1b:(x.params.length:Int)≤8:=by omega
                have j1b:¬((8:Int)<(x.params.length:Int)):=by omega
                cases y2 with
                |false=>
                 have hres:=aa (hst.out (by simp []))
                 clear hnx hst
                 go_wp2_with (first|(go_at_call 100;refine g1.mono ?_;rintro e w4 ⟨rfl,hb4,hbw4⟩;have k4:=ab hb4;have z4a:=Bg zz1 hb4.size;have z4b:=Bg zz2 hb4.size)|(go_at_call 101;refine (g2.out _ hb4 hbw4).mono ?_;rintro e w5 ⟨rfl,hb5,hbw5⟩;have k5:=ab hb5;have z5a:=Bg zz1 hb5.size;have z5b:=Bg zz2 hb5.size)|(go_at_call 103;refine (g3.out _ hbw5).mono ?_;rintro e w6 ⟨rfl,hbw6⟩))
                 go_ret
                 exact ⟨ah (hv.out.trans (by rw [hAll1.out,hAll2.out,hres.out];simp)).symm,hBk.out _ ‹_›⟩
                |true=>
                 cases y3 with
                 |false=>
                  have hres:=aa (hst.out (by simp []))
                  clear hnx hst
                  go_wp2_with (first|(go_at_call 100;refine g1.mono ?_;rintro e w4 ⟨rfl,hb4,hbw4⟩;have k4:=ab hb4;have z4a:=Bg zz1 hb4.size;have z4b:=Bg zz2 hb4.size)|(go_at_call 101;refine (g2.out _ hb4 hbw4).mono ?_;rintro e w5 ⟨rfl,hb5,hbw5⟩;have k5:=ab hb5;have z5a:=Bg zz1 hb5.size;have z5b:=Bg zz2 hb5.size)|(go_at_call 103;refine (g3.out _ hbw5).mono ?_;rintro e w6 ⟨rfl,hbw6⟩))
                  go_ret
                  exact ⟨ah (hv.out.trans (by rw [hAll1.out,hAll2.out,hres.out];simp)).symm,hBk.out _ ‹_›⟩
                 |true=>
                  have hres:=aa (hnx.out (by simp [n1b]))
                  clear hnx hst
                  go_wp2_with (first|(go_at_call 100;refine g1.mono ?_;rintro e w4 ⟨rfl,hb4,hbw4⟩;have k4:=ab hb4;have z4a:=Bg zz1 hb4.size;have z4b:=Bg zz2 hb4.size)|(go_at_call 101;refine (g2.out _ hb4 hbw4).mono ?_;rintro e w5 ⟨rfl,hb5,hbw5⟩;have k5:=ab hb5;have z5a:=Bg zz1 hb5.size;have z5b:=Bg zz2 hb5.size)|(go_at_call 103;refine (g3.out _ hbw5).mono ?_;rintro e w6 ⟨rfl,hbw6⟩))
                  go_roundw
                  case rel=>exact ⟨k+1,by omega,by go_num,hres,aa ‹_›⟩
                  case measure=>simp [intOf];omega
               ·have i1b:¬((x.params.length:Int)≤8):=by omega
                have j1b:(8:Int)<(x.params.length:Int):=by omega
                have hres:=aa (hst.out (by simp [n1b]))
                clear hnx hst
                go_wp2_with (first|(go_at_call 100;refine g1.mono ?_;rintro e w4 ⟨rfl,hb4,hbw4⟩;have k4:=ab hb4;have z4a:=Bg zz1 hb4.size;have z4b:=Bg zz2 hb4.size)|(go_at_call 101;refine (g2.out _ hb4 hbw4).mono ?_;rintro e w5 ⟨rfl,hb5,hbw5⟩;have k5:=ab hb5;have z5a:=Bg zz1 hb5.size;have z5b:=Bg zz2 hb5.size)|(go_at_call 103;refine (g3.out _ hbw5).mono ?_;rintro e w6 ⟨rfl,hbw6⟩))
                go_ret
                exact ⟨ah (hv.out.trans (by rw [hAll1.out,hAll2.out,hres.out];simp)).symm,hBk.out _ ‹_›⟩
             ·have hAll3:=aa (cJ hq.out hlt)
              go_wp2
              have hbp:=hbr
              clear hbr hq hlt hkk hc hzr
              go_loopw [8] (fun i wr=>∃ k:Nat,k≤p.tables.length∧i=.int .i64 k∧Hid ((p.tables.take k).all ob=true)∧Hid (Below wa.heap.size wa wr)) (fun i _=>p.tables.length-(intOf i).toNat)
              case atStart=>exact ⟨0,Bo _,rfl,aa (by simp),hbp⟩
              case round=>
               clear hbp
               obtain ⟨k,hkk,rfl,hq,hbr⟩:=hrel
               have hc:=ab hbr.out
               have hzr:=hbr.out.size
               by_cases hlt:k<p.tables.length
               ·have hltz:(k:Int)<(p.tables.length:Int):=by omega
                have hnx:=aa (fun h=>ci (p:=ob) hlt hq.out h)
                have hst:=aa (fun h=>bT (p:=ob) hlt h)
                obtain ⟨b,o,ecs,hA,hb,hel,hcell,hr⟩:=(hP.out.tables).2 k _ (Bk hlt)
                subst hA
                have hbw:b<wa.heap.size:=by omega
                obtain ⟨a0,a1,a2,a3,a4,hecs⟩:=xT hr
                have hX0:=m7 p.tables[k] ecs wr (show B≤wr.heap.size by omega) (gF.keep hr fun q hq=>hbr.out.cell (Bg hq (by omega)))
                subst hecs
                obtain ⟨x0,x1,x2,x3,x4⟩:=cN hcell
                clear hcell hel hr
                generalize ob p.tables[k]=z at hX0 hnx hst
                have hX:Calls prog 104 #[.agg #[a0,a1,a2,a3,a4]] wr fun r w'=>r=.returned (.bool z)∧Below wr.heap.size wr w':=hX0
                clear hX0
                cases z with
                |false=>
                 have hres:=hst.out rfl
                 clear hnx hst
                 replace hres:=aa hres
                 go_wp2_with (go_at_call 104;refine hX.mono ?_;rintro e w2 ⟨rfl,hb2⟩)
                 go_ret
                 exact ⟨ah (hv.out.trans (by rw [hAll1.out,hAll2.out,hAll3.out,hres.out];simp)).symm,hBk.out _ (hbr.out.trans (hb2.mono hzr))⟩
                |true=>
                 have hres:=aa (hnx.out rfl)
                 clear hnx hst
                 go_wp2_with (go_at_call 104;refine hX.mono ?_;rintro e w2 ⟨rfl,hb2⟩)
                 go_roundw
                 case rel=>exact ⟨k+1,by omega,by go_num,hres,aa (hbr.out.trans (hb2.mono hzr))⟩
                 case measure=>simp [intOf];omega
               ·have hAll4:=aa (cJ hq.out hlt)
                go_wp2_with fail
                have hbp:=hbr
                clear hbr hq hlt hkk hc hzr
                have hb8:=hbp.out
                have k8:=ab hb8
                have zz8:=Bg hl0 hb8.size
                clear hP hbp
                have hv9:=aa (hv.out.trans (by rw [hAll1.out,hAll2.out,hAll3.out,hAll4.out,Bt,Bt,Bt,Bt]):bg p=(z5&&(z6&&z7)))
                clear hv
                cases z5 with
                |false=>
                 go_wp2_with (first|(go_at_call 101;first|(with_reducible refine (q5.out _ ‹_›).mono ?_;rintro e w1 ⟨rfl,hb5⟩;have khb5:=ab hb5))|(go_at_call 103;first|(with_reducible refine (q6.out _ ‹_›).mono ?_;rintro e w1 ⟨rfl,hb6⟩;have khb6:=ab hb6))|(go_at_call 105;first|(with_reducible refine (q7.out _ ‹_›).mono ?_;rintro e w1 ⟨rfl,hb7⟩;have khb7:=ab hb7)))
                 go_ret
                 exact ⟨ah hv9.out.symm,hBk.out _ ‹_›⟩
                |true=>
                 cases z6 with
                 |false=>
                  go_wp2_with (first|(go_at_call 101;first|(with_reducible refine (q5.out _ ‹_›).mono ?_;rintro e w1 ⟨rfl,hb5⟩;have khb5:=ab hb5))|(go_at_call 103;first|(with_reducible refine (q6.out _ ‹_›).mono ?_;rintro e w1 ⟨rfl,hb6⟩;have khb6:=ab hb6))|(go_at_call 105;first|(with_reducible refine (q7.out _ ‹_›).mono ?_;rintro e w1 ⟨rfl,hb7⟩;have khb7:=ab hb7)))
                  go_ret
                  exact ⟨ah hv9.out.symm,hBk.out _ ‹_›⟩
                 |true=>
                  cases z7 with
                  |false=>
                   go_wp2_with (first|(go_at_call 101;first|(with_reducible refine (q5.out _ ‹_›).mono ?_;rintro e w1 ⟨rfl,hb5⟩;have khb5:=ab hb5))|(go_at_call 103;first|(with_reducible refine (q6.out _ ‹_›).mono ?_;rintro e w1 ⟨rfl,hb6⟩;have khb6:=ab hb6))|(go_at_call 105;first|(with_reducible refine (q7.out _ ‹_›).mono ?_;rintro e w1 ⟨rfl,hb7⟩;have khb7:=ab hb7)))
                   go_ret
                   exact ⟨ah hv9.out.symm,hBk.out _ ‹_›⟩
                  |true=>
                   go_wp2_with (first|(go_at_call 101;first|(with_reducible refine (q5.out _ ‹_›).mono ?_;rintro e w1 ⟨rfl,hb5⟩;have khb5:=ab hb5))|(go_at_call 103;first|(with_reducible refine (q6.out _ ‹_›).mono ?_;rintro e w1 ⟨rfl,hb6⟩;have khb6:=ab hb6))|(go_at_call 105;first|(with_reducible refine (q7.out _ ‹_›).mono ?_;rintro e w1 ⟨rfl,hb7⟩;have khb7:=ab hb7)))
                   go_ret
                   exact ⟨ah hv9.out.symm,hBk.out _ ‹_›⟩
       rotate_right
       rw [decide_eq_false n6,Bu] at hv0
       have i6:¬((p.emit.length:Int)≤8):=by omega
       have j6:(8:Int)<(p.emit.length:Int):=by omega
      rotate_right
      rw [decide_eq_false n5,Bu] at hv0
      have i5:¬((p.tables.length:Int)≤8):=by omega
      have j5:(8:Int)<(p.tables.length:Int):=by omega
     rotate_right
     rw [decide_eq_false n4,Bu] at hv0
     have i4:¬((p.actions.length:Int)≤16):=by omega
     have j4:(16:Int)<(p.actions.length:Int):=by omega
    rotate_right
    rw [decide_eq_false n3,Bu] at hv0
    have i3:¬((p.states.length:Int)≤16):=by omega
    have j3:(16:Int)<(p.states.length:Int):=by omega
   rotate_right
   rw [decide_eq_false n2,Bu] at hv0
   have i2:¬(1≤(p.states.length:Int)):=by omega
   have j2:(p.states.length:Int)<1:=by omega
  rotate_right
  rw [decide_eq_false n1,Bu] at hv0
  have i1:¬((p.metas.length:Int)≤16):=by omega
  have j1:(16:Int)<(p.metas.length:Int):=by omega
 rotate_right
 rw [decide_eq_false n0,Bu] at hv0
 have i0:¬((p.headers.length:Int)≤8):=by omega
 have j0:(8:Int)<(p.headers.length:Int):=by omega
 all_goals
  have hv:=aa hv0
  clear hv0
  go_wp2_with (first|fail)
  go_ret
  exact ⟨ah hv.out.symm,hBk.out _ ‹_›⟩
end Go.Proofs.YtbbdhknagofghaaGreat

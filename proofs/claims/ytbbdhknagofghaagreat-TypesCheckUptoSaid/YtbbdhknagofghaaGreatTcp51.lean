import Derived.Test.YtbbdhknagofghaaGreatTcp50
set_option linter.all false
set_option maxHeartbeats 4000000
set_option maxRecDepth 100000
open Go.Proofs.Tryz
namespace Go.Proofs.YtbbdhknagofghaaGreat
open _root_.Nat renaming lt_of_lt_of_le→Bg, zero_le→Bo, le_of_eq→Br
open _root_.Go.Calls renaming regrown_of→Bh
open _root_.Go.RowKit.Below renaming refl→Bi
open _root_.List renaming getElem?_eq_getElem→Bk
open _root_.Go.Sort renaming grow→Bl
open Go.RowKit
theorem Sl.grown2 {α:Type} {R:CR α} {k:Nat} {wb wr:World} {B B':Nat} {A:Option Addr} {xs:List α} (sR:dM R) (h:Sl k R wb B A xs) (hb:Below B' wb wr) (hB:B≤B') (hz:B'≤wr.heap.size) (d:Nat) (os:Array Obj):
  Sl k R (Bl (redrawn wr d) os) (Bl (redrawn wr d) os).heap.size A xs:=
 (h.below sR ((aA hb hz d os).mono hB)).more sR (by have:=cH wr d os;omega)
theorem sc (w:World) (A1 A2 A3 A4 A5 A6 A7:Option Addr) (p:Pg) (c1 c2 c3 c4 c5 c6 c7:Nat) (h:bu w w.heap.size A1 A2 A3 A4 A5 A6 A7 p):
  Calls prog 5 #[.agg (AW p A1 A2 A3 A4 A5 A6 A7 c1 c2 c3 c4 c5 c6 c7).toArray] w fun r w'=>(∃ g,r=.returned (.bool g))∧Below w.heap.size w w':=by
 show Calls _ _ #[.agg #[.slice A1 p.headers.length c1,.slice A2 p.metas.length c2,.slice A3 p.states.length c3,.slice A4 p.actions.length c4,.slice A5 p.tables.length c5,.slice A6 p.control.length c6,.slice A7 p.emit.length c7]] _ _
 obtain ⟨wb,hwb,hsz,hw,hcb,-⟩:=al w (aq p A1 A2 A3 A4 A5 A6 A7 c1 c2 c3 c4 c5 c6 c7) 30
 have y0:wb.cell? ⟨w.heap.size,0,none⟩=some (.slice A1 p.headers.length c1):=hcb 0
 have y1:wb.cell? ⟨w.heap.size,1,none⟩=some (.slice A2 p.metas.length c2):=hcb 1
 have y2:wb.cell? ⟨w.heap.size,2,none⟩=some (.slice A3 p.states.length c3):=hcb 2
 have y3:wb.cell? ⟨w.heap.size,3,none⟩=some (.slice A4 p.actions.length c4):=hcb 3
 have y4:wb.cell? ⟨w.heap.size,4,none⟩=some (.slice A5 p.tables.length c5):=hcb 4
 have y5:wb.cell? ⟨w.heap.size,5,none⟩=some (.slice A6 p.control.length c6):=hcb 5
 have y6:wb.cell? ⟨w.heap.size,6,none⟩=some (.slice A7 p.emit.length c7):=hcb 6
 have l1:=h.1.len
 have l2:=h.2.len
 have l3:=h.3.len
 have l4:=h.4.len
 have l5:=h.5.len
 have l6:=h.6.len
 have l7:=h.7.len
 have hz:w.heap.size≤wb.heap.size:=by omega
 have hb0:Below w.heap.size wb wb:=Bi _ _
 have hP:=aa (h.below hw)
 have hM:∀ d os,Hid (Calls prog 11 #[.slice A2 p.metas.length c2] (Bl (redrawn wb d) os) _):=fun d os=>aa (gr p.metas A2 c2 _ (((h.2.below bA hw).below bA (aA hb0 hz d os)).more bA (by have:=cH wb d os;omega)))
 have hC:∀ d os,Hid (Calls prog 12 #[.slice A6 p.control.length c6] (Bl (redrawn wb d) os) _):=fun d os=>aa (ns p.control A6 c6 _ (((h.6.below be hw).below be (aA hb0 hz d os)).more be (by have:=cH wb d os;omega)))
 have hE:∀ d os,Hid (Calls prog 13 #[.slice A7 p.emit.length c7] (Bl (redrawn wb d) os) _):=fun d os=>aa (ia p.emit A7 c7 _ (((h.7.below aW hw).below aW (aA hb0 hz d os)).more aW (by have:=cH wb d os;omega)))
 have hg:=ax (show Below (w.heap.size+1) wb wb from Bi _ _) (by omega)
 replace hw:=aa hw
 clear hcb h
 generalize kJ _ _=z2 at hM
 generalize da _ _=z6 at hC
 generalize kI _ _=z7 at hE
 go_enter func5,ntmps5
 go_wp2_with fail
 refine cD ?_
 repeat (any_goals (first|go_big_quiet_step (first|(go_at_call 11;with_reducible exact Bh (hM _ _).out)|(go_at_call 12;with_reducible exact Bh (hC _ _).out)|(go_at_call 13;with_reducible exact Bh (hE _ _).out))|quiet_step (first|(go_at_call 11;with_reducible exact Bh (hM _ _).out)|(go_at_call 12;with_reducible exact Bh (hC _ _).out)|(go_at_call 13;with_reducible exact Bh (hE _ _).out))))
 refine wpQuiet_nil ?_
 intro w1 hw1
 replace hw1:=ac hw1
 go_wp2
 have hbr1:=aa (hw1.mono (Br hsz.symm))
 have hzr1:w.heap.size+1≤w1.heap.size:=by have:=hw1.size;omega
 clear hw1 hM hC hE hb0 hz hg
 generalize wrap64 (wrap64 (z2+z6)+z7)=z0
 go_loopw [3,4] (fun n i wr=>∃ k:Nat,k≤p.headers.length∧i=.int .i64 k∧(∃ z,n=.int .i64 z)∧Hid (Below (w.heap.size+1) wb wr)∧w.heap.size+1≤wr.heap.size) (fun _ i _=>p.headers.length-(intOf i).toNat)
 case atStart=>exact ⟨0,Bo _,rfl,⟨_,rfl⟩,hbr1,hzr1⟩
 case round=>
  obtain ⟨k,hk,rfl,⟨z,rfl⟩,hbr,hzr⟩:=hrel
  have hg:=ax hbr.out hzr
  have hc:=ab hbr.out
  by_cases hlt:k<p.headers.length
  ·obtain ⟨b,o,ecs,hA,hb,hel,hcell,A',c',rfl,hn,hF⟩:=hP.out.headers.2 k _ (Bk hlt)
   subst hA
   have hltz:(k:Int)<(p.headers.length:Int):=by omega
   have hl':=hF.len
   have x0:wb.cell? ⟨b,o+k*2,none⟩=some (.string p.headers[k].name):=by simpa using hcell 0 _ rfl
   have x1:wb.cell? ⟨b,o+k*2+1,none⟩=some (.slice A' p.headers[k].fields.length c'):=hcell 1 _ rfl
   have hX:∀ d os,Hid (Calls prog 11 #[.slice A' p.headers[k].fields.length c'] (Bl (redrawn wr d) os) _):=fun d os=>aa (gr _ A' c' _ (hF.grown2 bA hbr.out (Nat.le_succ _) hzr d os))
   generalize kJ _ _=zf at hX
   clear hcell hF
   go_wp2_with fail
   refine cD ?_
   repeat (any_goals (first|go_big_quiet_step (first|(go_at_call 11;with_reducible exact Bh (hX _ _).out)|fail)|quiet_step (first|(go_at_call 11;with_reducible exact Bh (hX _ _).out)|fail)))
   refine wpQuiet_nil ?_
   intro w2 hw2
   replace hw2:=ac hw2
   go_wp2
   go_roundw
   case rel=>exact ⟨k+1,by omega,by go_num,⟨_,rfl⟩,aa (hbr.out.trans (hw2.mono hzr)),by have:=hw2.size;omega⟩
   case measure=>simp [intOf];omega
  ·clear hg
   go_wp2
   generalize k=k0
   go_loopw [3,5] (fun n i wr=>∃ k:Nat,k≤p.states.length∧i=.int .i64 k∧(∃ z,n=.int .i64 z)∧Hid (Below (w.heap.size+1) wb wr)∧w.heap.size+1≤wr.heap.size) (fun _ i _=>p.states.length-(intOf i).toNat)
   case atStart=>exact ⟨0,Bo _,rfl,⟨_,rfl⟩,hbr,hzr⟩
   case round=>
    clear hbr hzr hc
    obtain ⟨k,hk,rfl,⟨z,rfl⟩,hbr,hzr⟩:=hrel
    have hc:=ab hbr.out
    by_cases hlt:k<p.states.length
    ·obtain ⟨b,o,ecs,hA,hb,hel,hcell,B1,d1,B2,d2,B3,d3,rfl,hn,hd,hT,hK,hCs⟩:=hP.out.states.2 k _ (Bk hlt)
     subst hA
     have hltz:(k:Int)<(p.states.length:Int):=by omega
     have m1:=hT.len
     have m2:=hK.len
     have m3:=hCs.len
     have x0:wb.cell? ⟨b,o+k*5,none⟩=some (.string p.states[k].name):=by simpa using hcell 0 _ rfl
     have x1:wb.cell? ⟨b,o+k*5+1,none⟩=some (.slice B1 p.states[k].takes.length d1):=hcell 1 _ rfl
     have x2:wb.cell? ⟨b,o+k*5+2,none⟩=some (.string p.states[k].dest):=hcell 2 _ rfl
     have x3:wb.cell? ⟨b,o+k*5+3,none⟩=some (.slice B2 p.states[k].keys.length d2):=hcell 3 _ rfl
     have x4:wb.cell? ⟨b,o+k*5+4,none⟩=some (.slice B3 p.states[k].cases_.length d3):=hcell 4 _ rfl
     obtain ⟨ws,hws,hszs,hwS,hcs,-⟩:=al wr #[.string p.states[k].name,.slice B1 p.states[k].takes.length d1,.string p.states[k].dest,.slice B2 p.states[k].keys.length d2,.slice B3 p.states[k].cases_.length d3] 61
     have s0:ws.cell? ⟨wr.heap.size,0,none⟩=some (.string p.states[k].name):=hcs 0
     have s1:ws.cell? ⟨wr.heap.size,1,none⟩=some (.slice B1 p.states[k].takes.length d1):=hcs 1
     have s2:ws.cell? ⟨wr.heap.size,2,none⟩=some (.string p.states[k].dest):=hcs 2
     have s3:ws.cell? ⟨wr.heap.size,3,none⟩=some (.slice B2 p.states[k].keys.length d2):=hcs 3
     have s4:ws.cell? ⟨wr.heap.size,4,none⟩=some (.slice B3 p.states[k].cases_.length d3):=hcs 4
     have hbs:=hbr.out.trans (hwS.mono hzr)
     have hzs:w.heap.size+1≤ws.heap.size:=by omega
     have hg:=ax (show Below (wr.heap.size+1) ws ws from Bi _ _) (by omega)
     have hX:∀ d os,Hid (Calls prog 13 #[.slice B1 p.states[k].takes.length d1] (Bl (redrawn ws d) os) _):=fun d os=>aa (ia _ B1 d1 _ (hT.grown2 aW hbs (Nat.le_succ _) hzs d os))
     generalize kI _ _=zf at hX
     replace hK:=aa (hK.below ai (hbs.mono (Nat.le_succ _)))
     replace hCs:=aa (hCs.below eD (hbs.mono (Nat.le_succ _)))
     replace hbs:=aa hbs
     replace hwS:=aa hwS
     clear hcell hT hcs
     go_wp2_with fail
     refine cD ?_
     repeat (any_goals (first|go_big_quiet_step (first|(go_at_call 13;with_reducible exact Bh (hX _ _).out)|fail)|quiet_step (first|(go_at_call 13;with_reducible exact Bh (hX _ _).out)|fail)))
     refine wpQuiet_nil ?_
     intro w2 hw2
     replace hw2:=ac hw2
     clear hX hg
     have hc2:=ab hw2
     have hb2:=aa hw2
     have hz2:wr.heap.size+1≤w2.heap.size:=by have:=hw2.size;omega
     clear hw2
     go_wp2
     obtain ⟨w3,rfl⟩:∃ w3:World,w3=wr:=⟨_,rfl⟩
     go_loopw [3,7] (fun n i wx=>∃ j:Nat,j≤p.states[k].keys.length∧i=.int .i64 j∧(∃ z,n=.int .i64 z)∧Hid (Below (w3.heap.size+1) ws wx)∧w3.heap.size+1≤wx.heap.size) (fun _ i _=>p.states[k].keys.length-(intOf i).toNat)
     case atStart=>exact ⟨0,Bo _,rfl,⟨_,rfl⟩,aa (hb2.out.mono (Br hszs.symm)),hz2⟩
     case round=>
      clear hb2 hz2 hc2
      obtain ⟨j,hj,rfl,⟨z',rfl⟩,hbx,hzx⟩:=hrel
      have hcx:=ab hbx.out
      by_cases hjt:j<p.states[k].keys.length
      ·obtain ⟨b',o',ecs',hA',hb',hel',hcell',hr'⟩:=hK.out.2 j _ (Bk hjt)
       subst hA'
       have hjz:(j:Int)<(p.states[k].keys.length:Int):=by omega
       have hbb:b'<w3.heap.size+1:=by omega
       match ecs',hel' with
       | [a0,a1,a2,a3,a4,a5,a6,a7,a8],_=>
        have q0:ws.cell? ⟨b',o'+j*9,none⟩=some a0:=by simpa using hcell' 0 a0 rfl
        have q1:ws.cell? ⟨b',o'+j*9+1,none⟩=some a1:=by simpa using hcell' 1 a1 rfl
        have q2:ws.cell? ⟨b',o'+j*9+2,none⟩=some a2:=by simpa using hcell' 2 a2 rfl
        have q3:ws.cell? ⟨b',o'+j*9+3,none⟩=some a3:=by simpa using hcell' 3 a3 rfl
        have q4:ws.cell? ⟨b',o'+j*9+4,none⟩=some a4:=by simpa using hcell' 4 a4 rfl
        have q5:ws.cell? ⟨b',o'+j*9+5,none⟩=some a5:=by simpa using hcell' 5 a5 rfl
        have q6:ws.cell? ⟨b',o'+j*9+6,none⟩=some a6:=by simpa using hcell' 6 a6 rfl
        have q7:ws.cell? ⟨b',o'+j*9+7,none⟩=some a7:=by simpa using hcell' 7 a7 rfl
        have q8:ws.cell? ⟨b',o'+j*9+8,none⟩=some a8:=by simpa using hcell' 8 a8 rfl
        have hcall:=kG _ [a0,a1,a2,a3,a4,a5,a6,a7,a8] wr (ai.more (ai.keep hr' fun q hq=>hbx.out.cell (Bg hq (by omega))) (by omega))
        clear hcell' hr'
        go_wp2_with (go_at_call 14;refine hcall.mono ?_;rintro e w' ⟨rfl,hw1⟩)
        go_roundw
        case rel=>exact ⟨j+1,by omega,by go_num,⟨_,rfl⟩,aa (hbx.out.trans (hw1.mono hzx)),by have:=hw1.size;omega⟩
        case measure=>simp [intOf];omega
      ·go_wp2
       go_loopw [3,8] (fun n i wr=>∃ j:Nat,j≤p.states[k].cases_.length∧i=.int .i64 j∧(∃ z,n=.int .i64 z)∧Hid (Below (w3.heap.size+1) ws wr)∧w3.heap.size+1≤wr.heap.size) (fun _ i _=>p.states[k].cases_.length-(intOf i).toNat)
       case atStart=>exact ⟨0,Bo _,rfl,⟨_,rfl⟩,hbx,hzx⟩
       case round=>
        clear hbx hzx hcx
        obtain ⟨j2,hj2,rfl,⟨zz,rfl⟩,hbx,hzx⟩:=hrel
        have hcx:=ab hbx.out
        by_cases hjt2:j2<p.states[k].cases_.length
        ·obtain ⟨b',o',ecs',hA',hb',hel',hcell',C1,f1,rfl,hq1,hq2⟩:=hCs.out.2 j2 _ (Bk hjt2)
         subst hA'
         have hjz:(j2:Int)<(p.states[k].cases_.length:Int):=by omega
         have hbb:b'<w3.heap.size+1:=by omega
         have m4:=hq2.len
         have q0:ws.cell? ⟨b',o'+j2*3,none⟩=some (.bool p.states[k].cases_[j2].dflt):=by simpa using hcell' 0 _ rfl
         have q1:ws.cell? ⟨b',o'+j2*3+1,none⟩=some (.slice C1 p.states[k].cases_[j2].sets.length f1):=hcell' 1 _ rfl
         have q2:ws.cell? ⟨b',o'+j2*3+2,none⟩=some (.string p.states[k].cases_[j2].dest):=hcell' 2 _ rfl
         clear hcell' hq2
         go_wp2_with fail
         go_quiet (fail)
         go_wp2
         go_roundw
         case rel=>exact ⟨j2+1,by omega,by go_num,⟨_,rfl⟩,aa (e9 hbx.out _),by simpa using hzx⟩
         case measure=>simp [intOf];omega
        ·go_wp2
         go_roundw
         case rel=>exact ⟨k+1,by omega,by go_num,⟨_,rfl⟩,aa (hbs.out.trans (hbx.out.mono (by omega))),by omega⟩
         case measure=>simp [intOf];omega
    ·go_wp2
     generalize k=k1 at*
     go_loopw [3,9] (fun n i wr=>∃ k:Nat,k≤p.actions.length∧i=.int .i64 k∧(∃ z,n=.int .i64 z)∧Hid (Below (w.heap.size+1) wb wr)∧w.heap.size+1≤wr.heap.size) (fun _ i _=>p.actions.length-(intOf i).toNat)
     case atStart=>exact ⟨0,Bo _,rfl,⟨_,rfl⟩,hbr,hzr⟩
     case round=>
      clear hbr hzr hc
      obtain ⟨k,hk,rfl,⟨z,rfl⟩,hbr,hzr⟩:=hrel
      have hc:=ab hbr.out
      have hg:=ax hbr.out hzr
      by_cases hlt:k<p.actions.length
      ·obtain ⟨b,o,ecs,hA,hb,hel,hcell,B1,d1,B2,d2,rfl,hn,hT,hK⟩:=hP.out.actions.2 k _ (Bk hlt)
       subst hA
       have hltz:(k:Int)<(p.actions.length:Int):=by omega
       have m1:=hT.len
       have m2:=hK.len
       have x0:wb.cell? ⟨b,o+k*3,none⟩=some (.string p.actions[k].name):=by simpa using hcell 0 _ rfl
       have x1:wb.cell? ⟨b,o+k*3+1,none⟩=some (.slice B1 p.actions[k].params.length d1):=hcell 1 _ rfl
       have x2:wb.cell? ⟨b,o+k*3+2,none⟩=some (.slice B2 p.actions[k].body.length d2):=hcell 2 _ rfl
       have hX:∀ d os,Hid (Calls prog 11 #[.slice B1 p.actions[k].params.length d1] (Bl (redrawn wr d) os) _):=fun d os=>aa (gr _ B1 d1 _ (hT.grown2 bA hbr.out (Nat.le_succ _) hzr d os))
       have hY:∀ d os,Hid (Calls prog 12 #[.slice B2 p.actions[k].body.length d2] (Bl (redrawn wr d) os) _):=fun d os=>aa (ns _ B2 d2 _ (hK.grown2 be hbr.out (Nat.le_succ _) hzr d os))
       generalize kJ _ _=zf at hX
       generalize da _ _=zs at hY
       clear hcell hT hK
       go_wp2_with fail
       refine cD ?_
       repeat (any_goals (first|go_big_quiet_step (first|(go_at_call 11;with_reducible exact Bh (hX _ _).out)|(go_at_call 12;with_reducible exact Bh (hY _ _).out))|quiet_step (first|(go_at_call 11;with_reducible exact Bh (hX _ _).out)|(go_at_call 12;with_reducible exact Bh (hY _ _).out))))
       refine wpQuiet_nil ?_
       intro w2 hw2
       replace hw2:=ac hw2
       go_wp2
       go_roundw
       case rel=>exact ⟨k+1,by omega,by go_num,⟨_,rfl⟩,aa (hbr.out.trans (hw2.mono hzr)),by have:=hw2.size;omega⟩
       case measure=>simp [intOf];omega
      ·clear hg
       go_wp2
       generalize k=k2 at*
       go_loopw [3,10] (fun n i wr=>∃ k:Nat,k≤p.tables.length∧i=.int .i64 k∧(∃ z,n=.int .i64 z)∧Hid (Below (w.heap.size+1) wb wr)∧w.heap.size+1≤wr.heap.size) (fun _ i _=>p.tables.length-(intOf i).toNat)
       case atStart=>exact ⟨0,Bo _,rfl,⟨_,rfl⟩,hbr,hzr⟩
       case round=>
        clear hbr hzr hc
        obtain ⟨k,hk,rfl,⟨z,rfl⟩,hbr,hzr⟩:=hrel
        have hc:=ab hbr.out
        by_cases hlt:k<p.tables.length
        ·obtain ⟨b,o,ecs,hA,hb,hel,hcell,B1,d1,B2,d2,B3,d3,rfl,hn,hd,hK,hT,hL⟩:=hP.out.tables.2 k _ (Bk hlt)
         subst hA
         have hltz:(k:Int)<(p.tables.length:Int):=by omega
         have m1:=hT.len
         have m2:=hK.len
         have m3:=hL.len
         have x0:wb.cell? ⟨b,o+k*5,none⟩=some (.string p.tables[k].name):=by simpa using hcell 0 _ rfl
         have x1:wb.cell? ⟨b,o+k*5+1,none⟩=some (.slice B1 p.tables[k].keys.length d1):=hcell 1 _ rfl
         have x2:wb.cell? ⟨b,o+k*5+2,none⟩=some (.slice B2 p.tables[k].actions.length d2):=hcell 2 _ rfl
         have x3:wb.cell? ⟨b,o+k*5+3,none⟩=some (.string p.tables[k].dname):=hcell 3 _ rfl
         have x4:wb.cell? ⟨b,o+k*5+4,none⟩=some (.slice B3 p.tables[k].dargs.length d3):=hcell 4 _ rfl
         obtain ⟨ws,hws,hszs,hwS,hcs,-⟩:=al wr #[.string p.tables[k].name,.slice B1 p.tables[k].keys.length d1,.slice B2 p.tables[k].actions.length d2,.string p.tables[k].dname,.slice B3 p.tables[k].dargs.length d3] 58
         have s0:ws.cell? ⟨wr.heap.size,0,none⟩=some (.string p.tables[k].name):=hcs 0
         have s1:ws.cell? ⟨wr.heap.size,1,none⟩=some (.slice B1 p.tables[k].keys.length d1):=hcs 1
         have s2:ws.cell? ⟨wr.heap.size,2,none⟩=some (.slice B2 p.tables[k].actions.length d2):=hcs 2
         have s3:ws.cell? ⟨wr.heap.size,3,none⟩=some (.string p.tables[k].dname):=hcs 3
         have s4:ws.cell? ⟨wr.heap.size,4,none⟩=some (.slice B3 p.tables[k].dargs.length d3):=hcs 4
         have hbs:=hbr.out.trans (hwS.mono hzr)
         have hzs:w.heap.size+1≤ws.heap.size:=by omega
         have hg:=ax (show Below (wr.heap.size+1) ws ws from Bi _ _) (by omega)
         have hX:∀ d os,Hid (Calls prog 13 #[.slice B2 p.tables[k].actions.length d2] (Bl (redrawn ws d) os) _):=fun d os=>aa (ia _ B2 d2 _ (hT.grown2 aW hbs (Nat.le_succ _) hzs d os))
         generalize kI _ _=zf at hX
         replace hK:=aa (hK.below jX (hbs.mono (Nat.le_succ _)))
         replace hbs:=aa hbs
         replace hwS:=aa hwS
         clear hcell hT hcs hL
         go_wp2_with fail
         refine cD ?_
         repeat (any_goals (first|go_big_quiet_step (first|(go_at_call 13;with_reducible exact Bh (hX _ _).out)|fail)|quiet_step (first|(go_at_call 13;with_reducible exact Bh (hX _ _).out)|fail)))
         refine wpQuiet_nil ?_
         intro w2 hw2
         replace hw2:=ac hw2
         clear hX hg
         have hc2:=ab hw2
         have hb2:=aa hw2
         have hz2:wr.heap.size+1≤w2.heap.size:=by have:=hw2.size;omega
         clear hw2
         go_wp2
         obtain ⟨w3,rfl⟩:∃ w3:World,w3=wr:=⟨_,rfl⟩
         go_loopw [3,12] (fun n i wr=>∃ j:Nat,j≤p.tables[k].keys.length∧i=.int .i64 j∧(∃ z,n=.int .i64 z)∧Hid (Below (w3.heap.size+1) ws wr)∧w3.heap.size+1≤wr.heap.size) (fun _ i _=>p.tables[k].keys.length-(intOf i).toNat)
         case atStart=>exact ⟨0,Bo _,rfl,⟨_,rfl⟩,aa (hb2.out.mono (Br hszs.symm)),hz2⟩
         case round=>
          clear hb2 hz2 hc2
          obtain ⟨j,hj,rfl,⟨z',rfl⟩,hbx,hzx⟩:=hrel
          have hcx:=ab hbx.out
          by_cases hjt:j<p.tables[k].keys.length
          ·obtain ⟨b',o',ecs',hA',hb',hel',hcell',es,rfl,hk8,hr'⟩:=hK.out.2 j _ (Bk hjt)
           subst hA'
           have hjz:(j:Int)<(p.tables[k].keys.length:Int):=by omega
           have hbb:b'<w3.heap.size+1:=by omega
           have hes:es.length=9:=by simpa using hel'
           match es,hes with
           | [a0,a1,a2,a3,a4,a5,a6,a7,a8],_=>
            have q0:ws.cell? ⟨b',o'+j*10,none⟩=some a0:=by simpa using hcell' 0 a0 rfl
            have q1:ws.cell? ⟨b',o'+j*10+1,none⟩=some a1:=by simpa using hcell' 1 a1 rfl
            have q2:ws.cell? ⟨b',o'+j*10+2,none⟩=some a2:=by simpa using hcell' 2 a2 rfl
            have q3:ws.cell? ⟨b',o'+j*10+3,none⟩=some a3:=by simpa using hcell' 3 a3 rfl
            have q4:ws.cell? ⟨b',o'+j*10+4,none⟩=some a4:=by simpa using hcell' 4 a4 rfl
            have q5:ws.cell? ⟨b',o'+j*10+5,none⟩=some a5:=by simpa using hcell' 5 a5 rfl
            have q6:ws.cell? ⟨b',o'+j*10+6,none⟩=some a6:=by simpa using hcell' 6 a6 rfl
            have q7:ws.cell? ⟨b',o'+j*10+7,none⟩=some a7:=by simpa using hcell' 7 a7 rfl
            have q8:ws.cell? ⟨b',o'+j*10+8,none⟩=some a8:=by simpa using hcell' 8 a8 rfl
            have hcall:=kG _ [a0,a1,a2,a3,a4,a5,a6,a7,a8] wr (ai.more (ai.keep hr' fun q hq=>hbx.out.cell (Bg hq (by omega))) (by omega))
            clear hcell' hr'
            go_wp2_with (go_at_call 14;refine hcall.mono ?_;rintro e w' ⟨rfl,hw1⟩)
            go_roundw
            case rel=>exact ⟨j+1,by omega,by go_num,⟨_,rfl⟩,aa (hbx.out.trans (hw1.mono hzx)),by have:=hw1.size;omega⟩
            case measure=>simp [intOf];omega
          ·go_wp2
           go_roundw
           case rel=>exact ⟨k+1,by omega,by go_num,⟨_,rfl⟩,aa (hbs.out.trans (hbx.out.mono (by omega))),by omega⟩
           case measure=>simp [intOf];omega
        ·go_wp2
         go_ret
         exact ⟨⟨_,rfl⟩,hw.out.trans (hbr.out.mono (Nat.le_succ _))⟩
end Go.Proofs.YtbbdhknagofghaaGreat

import Derived.Test.YtbbdhknagofghaaGreatTcp25
import Derived.Test.YtbbdhknagofghaaGreatTcp15
set_option linter.all false
set_option maxHeartbeats 8000000
set_option maxRecDepth 100000
open Go.Proofs.Tryz
namespace Go.Proofs.YtbbdhknagofghaaGreat
open _root_.Nat renaming lt_of_lt_of_le→Bg, le_trans→Bj, zero_le→Bo, le_of_eq→Br
open _root_.Go.RowKit.Below renaming refl→Bi
open _root_.List renaming getElem?_eq_getElem→Bk, getElem_mem→Bv, take_of_length_le→BB, cons_append→BC, take_succ_eq_append_getElem→BO
open _root_.Int renaming eq_ofNat_of_zero_le→BR
open Go.RowKit
def AM (op:Int) (j:Rs Ty):Rs Ty:=match j with
 | .error n=>.error n
 | .ok j=>if 19≤op then .ok ⟨0,true,false⟩ else .ok j
theorem xL (lit:Lt) (head name:ByteArray) (hi lo:Int) (A:Option Addr) (n cap:Nat) (sw tw:Int) (sr sf tr tf:Bool) (w:World) (r:Rs Ty) (hv:Hid (r=if sr&&tr then .ok ⟨sw,sr,sf⟩ else .error 9)):
  Calls prog 181 #[.agg (aO 25 lit head name hi lo A n cap),.agg #[.int .i64 sw,.bool sr,.bool sf],.agg #[.int .i64 tw,.bool tr,.bool tf]] w fun e w'=>e=.returned (.tuple #[.agg (gw (db r).1),.int .i64 (db r).2])∧Below w.heap.size w w':=by
 unfold aO
 obtain ⟨wu,hwu,hsu,hbu,hcu,hfu⟩:=al w (aO 25 lit head name hi lo A n cap) 45
 obtain ⟨wx,hwx,hsx,hbx,hcx,hfx⟩:=al wu #[.int .i64 sw,.bool sr,.bool sf] 75
 obtain ⟨wy,hwy,hsy,hby,hcy,hfy⟩:=al wx #[.int .i64 tw,.bool tr,.bool tf] 75
 obtain ⟨wz,hwz,hsz,hbz,hcz,hfz⟩:=al wy #[.int .i64 0,.bool false,.bool false] 75
 obtain ⟨wn,hwn,hsn,hbn,hcn,hfn⟩:=al wz #[.int .i64 0,.bool false,.bool false] 75
 have hEn:Below wn.heap.size wn wn:=Bi _ _
 have hEz:Below wz.heap.size wz wn:=hbn.trans (hEn.mono (by omega))
 have hEy:Below wy.heap.size wy wn:=hbz.trans (hEz.mono (by omega))
 have hEx:Below wx.heap.size wx wn:=hby.trans (hEy.mono (by omega))
 have hEu:Below wu.heap.size wu wn:=hbx.trans (hEx.mono (by omega))
 have hw:=aa (hbu.trans (hEu.mono (by omega)))
 have cu:=fun i=>(bx hEu w.heap.size i (by omega)).trans (hcu i)
 have cx:=fun i=>(bx hEx wu.heap.size i (by omega)).trans (hcx i)
 have cy:=fun i=>(bx hEy wx.heap.size i (by omega)).trans (hcy i)
 have cz:=fun i=>(bx hEz wy.heap.size i (by omega)).trans (hcz i)
 have hqz:=fun i=>(ss hEz wy.heap.size i (by omega)).trans (hfz i)
 have cn:=fun i=>(bx hEn wz.heap.size i (by omega)).trans (hcn i)
 have hqn:=fun i=>(ss hEn wz.heap.size i (by omega)).trans (hfn i)
 simp only [hsu] at cx
 simp only [hsx,hsu] at cy
 simp only [hsy,hsx,hsu] at cz hqz
 simp only [hsz,hsy,hsx,hsu] at cn hqn
 obtain ⟨u0,u1,u2,u3,u4,u5,u6,u7,u8⟩:=bU cu
 obtain ⟨x0,x1,x2⟩:=bF cx
 obtain ⟨y0,y1,y2⟩:=bF cy
 obtain ⟨z0,z1,z2⟩:=bF cz
 obtain ⟨n0,n1,n2⟩:=bF cn
 have hl1:w.heap.size<wn.heap.size:=by omega
 have hl2:w.heap.size+1<wn.heap.size:=by omega
 have hl3:w.heap.size+1+1<wn.heap.size:=by omega
 have hl4:w.heap.size+1+1+1<wn.heap.size:=by omega
 have hl5:w.heap.size+1+1+1+1<wn.heap.size:=by omega
 clear cu hcu hbu hfu cx hcx hbx hfx cy hcy hby hfy cz hcz hbz hfz cn hcn hbn hfn hEu hEx hEy hEz hEn
 replace hsn:=aa hsn
 cases sr
 rotate_right
 focus
  cases tr
  rotate_right
  focus
   go_enter func181,ntmps181
   go_wp2
   refine bodyPost_ret (v:=.tuple #[.agg #[.int .i64 sw,.bool true,.bool sf],.int .i64 0]) (by simp [results,results181,go_sem,z0,z1,z2]) rfl ⟨by rw [hv.out];rfl,?_⟩
   exact ad (ad hw.out (by omega) _ _ _) (by omega) _ _ _
 all_goals
  go_enter func181,ntmps181
  go_wp2
  refine bodyPost_ret (v:=.tuple #[.agg #[.int .i64 0,.bool false,.bool false],.int .i64 9]) (by simp [results,results181,go_sem,z0,z1,z2]) rfl ⟨by rw [hv.out];rfl,?_⟩
  exact ad (ad hw.out (by omega) _ _ _) (by omega) _ _ _
theorem xM (lit:Lt) (head name:ByteArray) (hi lo:Int) (A:Option Addr) (n cap:Nat) (sw tw:Int) (sr sf tr tf:Bool) (w:World) (r:Rs Ty) (hv:Hid (r=if sr&&tr then .ok ⟨sw,sr,sf⟩ else .error 9)):
  Calls prog 181 #[.agg (aO 26 lit head name hi lo A n cap),.agg #[.int .i64 sw,.bool sr,.bool sf],.agg #[.int .i64 tw,.bool tr,.bool tf]] w fun e w'=>e=.returned (.tuple #[.agg (gw (db r).1),.int .i64 (db r).2])∧Below w.heap.size w w':=by
 unfold aO
 obtain ⟨wu,hwu,hsu,hbu,hcu,hfu⟩:=al w (aO 26 lit head name hi lo A n cap) 45
 obtain ⟨wx,hwx,hsx,hbx,hcx,hfx⟩:=al wu #[.int .i64 sw,.bool sr,.bool sf] 75
 obtain ⟨wy,hwy,hsy,hby,hcy,hfy⟩:=al wx #[.int .i64 tw,.bool tr,.bool tf] 75
 obtain ⟨wz,hwz,hsz,hbz,hcz,hfz⟩:=al wy #[.int .i64 0,.bool false,.bool false] 75
 obtain ⟨wn,hwn,hsn,hbn,hcn,hfn⟩:=al wz #[.int .i64 0,.bool false,.bool false] 75
 have hEn:Below wn.heap.size wn wn:=Bi _ _
 have hEz:Below wz.heap.size wz wn:=hbn.trans (hEn.mono (by omega))
 have hEy:Below wy.heap.size wy wn:=hbz.trans (hEz.mono (by omega))
 have hEx:Below wx.heap.size wx wn:=hby.trans (hEy.mono (by omega))
 have hEu:Below wu.heap.size wu wn:=hbx.trans (hEx.mono (by omega))
 have hw:=aa (hbu.trans (hEu.mono (by omega)))
 have cu:=fun i=>(bx hEu w.heap.size i (by omega)).trans (hcu i)
 have cx:=fun i=>(bx hEx wu.heap.size i (by omega)).trans (hcx i)
 have cy:=fun i=>(bx hEy wx.heap.size i (by omega)).trans (hcy i)
 have cz:=fun i=>(bx hEz wy.heap.size i (by omega)).trans (hcz i)
 have hqz:=fun i=>(ss hEz wy.heap.size i (by omega)).trans (hfz i)
 have cn:=fun i=>(bx hEn wz.heap.size i (by omega)).trans (hcn i)
 have hqn:=fun i=>(ss hEn wz.heap.size i (by omega)).trans (hfn i)
 simp only [hsu] at cx
 simp only [hsx,hsu] at cy
 simp only [hsy,hsx,hsu] at cz hqz
 simp only [hsz,hsy,hsx,hsu] at cn hqn
 obtain ⟨u0,u1,u2,u3,u4,u5,u6,u7,u8⟩:=bU cu
 obtain ⟨x0,x1,x2⟩:=bF cx
 obtain ⟨y0,y1,y2⟩:=bF cy
 obtain ⟨z0,z1,z2⟩:=bF cz
 obtain ⟨n0,n1,n2⟩:=bF cn
 have hl1:w.heap.size<wn.heap.size:=by omega
 have hl2:w.heap.size+1<wn.heap.size:=by omega
 have hl3:w.heap.size+1+1<wn.heap.size:=by omega
 have hl4:w.heap.size+1+1+1<wn.heap.size:=by omega
 have hl5:w.heap.size+1+1+1+1<wn.heap.size:=by omega
 clear cu hcu hbu hfu cx hcx hbx hfx cy hcy hby hfy cz hcz hbz hfz cn hcn hbn hfn hEu hEx hEy hEz hEn
 replace hsn:=aa hsn
 cases sr
 rotate_right
 focus
  cases tr
  rotate_right
  focus
   go_enter func181,ntmps181
   go_wp2
   refine bodyPost_ret (v:=.tuple #[.agg #[.int .i64 sw,.bool true,.bool sf],.int .i64 0]) (by simp [results,results181,go_sem,z0,z1,z2]) rfl ⟨by rw [hv.out];rfl,?_⟩
   exact ad (ad hw.out (by omega) _ _ _) (by omega) _ _ _
 all_goals
  go_enter func181,ntmps181
  go_wp2
  refine bodyPost_ret (v:=.tuple #[.agg #[.int .i64 0,.bool false,.bool false],.int .i64 9]) (by simp [results,results181,go_sem,z0,z1,z2]) rfl ⟨by rw [hv.out];rfl,?_⟩
  exact ad (ad hw.out (by omega) _ _ _) (by omega) _ _ _
theorem xN (lit:Lt) (head name:ByteArray) (hi lo:Int) (A:Option Addr) (n cap:Nat) (sw tw:Int) (sr sf tr tf:Bool) (hi1:sr=false→sf=false→1≤sw∧sw≤128) (hi2:tr=false→tf=false→1≤tw∧tw≤128) (w:World) (r:Rs Ty) (hv:Hid (r=if sr then .error 9 else if sf then .error 10 else if tr then .error 9 else if tf then .error 10 else if sw+tw≤128 then .ok ⟨sw+tw,false,false⟩ else .error 5)):
  Calls prog 181 #[.agg (aO 11 lit head name hi lo A n cap),.agg #[.int .i64 sw,.bool sr,.bool sf],.agg #[.int .i64 tw,.bool tr,.bool tf]] w fun e w'=>e=.returned (.tuple #[.agg (gw (db r).1),.int .i64 (db r).2])∧Below w.heap.size w w':=by
 unfold aO
 have hbS0:=fun (W:World)=>dY ⟨sw,sr,sf⟩ W
 have hbT0:=fun (W:World)=>dY ⟨tw,tr,tf⟩ W
 obtain ⟨wu,hwu,hsu,hbu,hcu,hfu⟩:=al w (aO 11 lit head name hi lo A n cap) 45
 obtain ⟨wx,hwx,hsx,hbx,hcx,hfx⟩:=al wu #[.int .i64 sw,.bool sr,.bool sf] 75
 obtain ⟨wy,hwy,hsy,hby,hcy,hfy⟩:=al wx #[.int .i64 tw,.bool tr,.bool tf] 75
 obtain ⟨wz,hwz,hsz,hbz,hcz,hfz⟩:=al wy #[.int .i64 0,.bool false,.bool false] 75
 obtain ⟨wn,hwn,hsn,hbn,hcn,hfn⟩:=al wz #[.int .i64 0,.bool false,.bool false] 75
 have hEn:Below wn.heap.size wn wn:=Bi _ _
 have hEz:Below wz.heap.size wz wn:=hbn.trans (hEn.mono (by omega))
 have hEy:Below wy.heap.size wy wn:=hbz.trans (hEz.mono (by omega))
 have hEx:Below wx.heap.size wx wn:=hby.trans (hEy.mono (by omega))
 have hEu:Below wu.heap.size wu wn:=hbx.trans (hEx.mono (by omega))
 have hw:=aa (hbu.trans (hEu.mono (by omega)))
 have cu:=fun i=>(bx hEu w.heap.size i (by omega)).trans (hcu i)
 have cx:=fun i=>(bx hEx wu.heap.size i (by omega)).trans (hcx i)
 have cy:=fun i=>(bx hEy wx.heap.size i (by omega)).trans (hcy i)
 have cz:=fun i=>(bx hEz wy.heap.size i (by omega)).trans (hcz i)
 have hqz:=fun i=>(ss hEz wy.heap.size i (by omega)).trans (hfz i)
 have cn:=fun i=>(bx hEn wz.heap.size i (by omega)).trans (hcn i)
 have hqn:=fun i=>(ss hEn wz.heap.size i (by omega)).trans (hfn i)
 simp only [hsu] at cx
 simp only [hsx,hsu] at cy
 simp only [hsy,hsx,hsu] at cz hqz
 simp only [hsz,hsy,hsx,hsu] at cn hqn
 obtain ⟨u0,u1,u2,u3,u4,u5,u6,u7,u8⟩:=bU cu
 obtain ⟨x0,x1,x2⟩:=bF cx
 obtain ⟨y0,y1,y2⟩:=bF cy
 obtain ⟨z0,z1,z2⟩:=bF cz
 obtain ⟨n0,n1,n2⟩:=bF cn
 have hl1:w.heap.size<wn.heap.size:=by omega
 have hl2:w.heap.size+1<wn.heap.size:=by omega
 have hl3:w.heap.size+1+1<wn.heap.size:=by omega
 have hl4:w.heap.size+1+1+1<wn.heap.size:=by omega
 have hl5:w.heap.size+1+1+1+1<wn.heap.size:=by omega
 clear cu hcu hbu hfu cx hcx hbx hfx cy hcy hby hfy cz hcz hbz hfz cn hcn hbn hfn hEu hEx hEy hEz hEn
 replace hsn:=aa hsn
 cases sr with
 |true=>
  have hbS:=aa (show ∀ W,Calls prog _ _ W fun e w'=>e=.returned (.int .i64 9)∧Below W.heap.size W w' from hbS0)
  clear hbS0 hbT0
  go_enter func181,ntmps181
  go_wp2_with (go_at_call 112;with_reducible refine (hbS.out _).mono ?_;rintro e w1 ⟨rfl,hb1⟩;have kb1:=ab hb1;have q1:=Bg hl1 (Bj (Br (by simp)) hb1.size);have q2:=Bg hl2 (Bj (Br (by simp)) hb1.size);have q3:=Bg hl3 (Bj (Br (by simp)) hb1.size);have q4:=Bg hl4 (Bj (Br (by simp)) hb1.size);have q5:=Bg hl5 (Bj (Br (by simp)) hb1.size))
  refine bodyPost_ret (v:=.tuple #[.agg #[.int .i64 0,.bool false,.bool false],.int .i64 9]) (by simp [results,results181,go_sem,kb1,z0,z1,z2,hl4,hl5]) rfl ⟨by rw [hv.out];rfl,?_⟩
  exact ad ((ad hw.out (by omega) _ _ _).trans (hb1.mono (by simp;omega))) (by omega) _ _ _
 |false=>
  cases sf with
  |true=>
   have hbS:=aa (show ∀ W,Calls prog _ _ W fun e w'=>e=.returned (.int .i64 10)∧Below W.heap.size W w' from hbS0)
   clear hbS0 hbT0
   go_enter func181,ntmps181
   go_wp2_with (go_at_call 112;with_reducible refine (hbS.out _).mono ?_;rintro e w1 ⟨rfl,hb1⟩;have kb1:=ab hb1;have q1:=Bg hl1 (Bj (Br (by simp)) hb1.size);have q2:=Bg hl2 (Bj (Br (by simp)) hb1.size);have q3:=Bg hl3 (Bj (Br (by simp)) hb1.size);have q4:=Bg hl4 (Bj (Br (by simp)) hb1.size);have q5:=Bg hl5 (Bj (Br (by simp)) hb1.size))
   refine bodyPost_ret (v:=.tuple #[.agg #[.int .i64 0,.bool false,.bool false],.int .i64 10]) (by simp [results,results181,go_sem,kb1,z0,z1,z2,hl4,hl5]) rfl ⟨by rw [hv.out];rfl,?_⟩
   exact ad ((ad hw.out (by omega) _ _ _).trans (hb1.mono (by simp;omega))) (by omega) _ _ _
  |false=>
   cases tr with
   |true=>
    have hbS:=aa (show ∀ W,Calls prog _ _ W fun e w'=>e=.returned (.int .i64 0)∧Below W.heap.size W w' from hbS0)
    have hbT:=aa (show ∀ W,Calls prog _ _ W fun e w'=>e=.returned (.int .i64 9)∧Below W.heap.size W w' from hbT0)
    clear hbS0 hbT0
    go_enter func181,ntmps181
    go_wp2_with (first|(go_at_call 112;with_reducible refine (hbS.out _).mono ?_;rintro e w1 ⟨rfl,hb1⟩;have kb1:=ab hb1;have q1:=Bg hl1 (Bj (Br (by simp)) hb1.size);have q2:=Bg hl2 (Bj (Br (by simp)) hb1.size);have q3:=Bg hl3 (Bj (Br (by simp)) hb1.size);have q4:=Bg hl4 (Bj (Br (by simp)) hb1.size);have q5:=Bg hl5 (Bj (Br (by simp)) hb1.size))|(go_at_call 112;with_reducible refine (hbT.out _).mono ?_;rintro e w2 ⟨rfl,hb2⟩;have kb2:=ab hb2;have p1:=Bg q1 hb2.size;have p2:=Bg q2 hb2.size;have p3:=Bg q3 hb2.size;have p4:=Bg q4 hb2.size;have p5:=Bg q5 hb2.size))
    refine bodyPost_ret (v:=.tuple #[.agg #[.int .i64 0,.bool false,.bool false],.int .i64 9]) (by simp [results,results181,go_sem,kb1,kb2,z0,z1,z2,hl4,hl5,q4,q5]) rfl ⟨by rw [hv.out];rfl,?_⟩
    exact ad (((ad hw.out (by omega) _ _ _).trans (hb1.mono (by simp;omega))).trans (hb2.mono (by omega))) (by omega) _ _ _
   |false=>
    cases tf with
    |true=>
     have hbS:=aa (show ∀ W,Calls prog _ _ W fun e w'=>e=.returned (.int .i64 0)∧Below W.heap.size W w' from hbS0)
     have hbT:=aa (show ∀ W,Calls prog _ _ W fun e w'=>e=.returned (.int .i64 10)∧Below W.heap.size W w' from hbT0)
     clear hbS0 hbT0
     go_enter func181,ntmps181
     go_wp2_with (first|(go_at_call 112;with_reducible refine (hbS.out _).mono ?_;rintro e w1 ⟨rfl,hb1⟩;have kb1:=ab hb1;have q1:=Bg hl1 (Bj (Br (by simp)) hb1.size);have q2:=Bg hl2 (Bj (Br (by simp)) hb1.size);have q3:=Bg hl3 (Bj (Br (by simp)) hb1.size);have q4:=Bg hl4 (Bj (Br (by simp)) hb1.size);have q5:=Bg hl5 (Bj (Br (by simp)) hb1.size))|(go_at_call 112;with_reducible refine (hbT.out _).mono ?_;rintro e w2 ⟨rfl,hb2⟩;have kb2:=ab hb2;have p1:=Bg q1 hb2.size;have p2:=Bg q2 hb2.size;have p3:=Bg q3 hb2.size;have p4:=Bg q4 hb2.size;have p5:=Bg q5 hb2.size))
     refine bodyPost_ret (v:=.tuple #[.agg #[.int .i64 0,.bool false,.bool false],.int .i64 10]) (by simp [results,results181,go_sem,kb1,kb2,z0,z1,z2,hl4,hl5,q4,q5]) rfl ⟨by rw [hv.out];rfl,?_⟩
     exact ad (((ad hw.out (by omega) _ _ _).trans (hb1.mono (by simp;omega))).trans (hb2.mono (by omega))) (by omega) _ _ _
    |false=>
     obtain ⟨g1,g2⟩:=hi1 rfl rfl
     obtain ⟨g3,g4⟩:=hi2 rfl rfl
     clear hi1 hi2
     by_cases hlt:sw+tw≤128
     ·have hlq:decide (128<sw+tw)=false:=decide_eq_false (by omega)
      have hbS:=aa (show ∀ W,Calls prog _ _ W fun e w'=>e=.returned (.int .i64 0)∧Below W.heap.size W w' from hbS0)
      have hbT:=aa (show ∀ W,Calls prog _ _ W fun e w'=>e=.returned (.int .i64 0)∧Below W.heap.size W w' from hbT0)
      clear hbS0 hbT0
      go_enter func181,ntmps181
      go_wp2_with (first|(go_at_call 112;with_reducible refine (hbS.out _).mono ?_;rintro e w1 ⟨rfl,hb1⟩;have kb1:=ab hb1;have q1:=Bg hl1 (Bj (Br (by simp)) hb1.size);have q2:=Bg hl2 (Bj (Br (by simp)) hb1.size);have q3:=Bg hl3 (Bj (Br (by simp)) hb1.size);have q4:=Bg hl4 (Bj (Br (by simp)) hb1.size);have q5:=Bg hl5 (Bj (Br (by simp)) hb1.size))|(go_at_call 112;with_reducible refine (hbT.out _).mono ?_;rintro e w2 ⟨rfl,hb2⟩;have kb2:=ab hb2;have p1:=Bg q1 hb2.size;have p2:=Bg q2 hb2.size;have p3:=Bg q3 hb2.size;have p4:=Bg q4 hb2.size;have p5:=Bg q5 hb2.size))
      refine bodyPost_ret (v:=.tuple #[.agg #[.int .i64 (sw+tw),.bool false,.bool false],.int .i64 0]) (by simp [results,results181,go_sem,kb1,kb2,z0,z1,z2,hl4,hl5,q4,q5]) rfl ⟨by rw [hv.out];simp [db,gw,hlt],?_⟩
      exact ad (((ad hw.out (by omega) _ _ _).trans (hb1.mono (by simp;omega))).trans (hb2.mono (by omega))) (by omega) _ _ _
     ·have hlq:128<sw+tw:=by omega
      have hbS:=aa (show ∀ W,Calls prog _ _ W fun e w'=>e=.returned (.int .i64 0)∧Below W.heap.size W w' from hbS0)
      have hbT:=aa (show ∀ W,Calls prog _ _ W fun e w'=>e=.returned (.int .i64 0)∧Below W.heap.size W w' from hbT0)
      clear hbS0 hbT0
      go_enter func181,ntmps181
      go_wp2_with (first|(go_at_call 112;with_reducible refine (hbS.out _).mono ?_;rintro e w1 ⟨rfl,hb1⟩;have kb1:=ab hb1;have q1:=Bg hl1 (Bj (Br (by simp)) hb1.size);have q2:=Bg hl2 (Bj (Br (by simp)) hb1.size);have q3:=Bg hl3 (Bj (Br (by simp)) hb1.size);have q4:=Bg hl4 (Bj (Br (by simp)) hb1.size);have q5:=Bg hl5 (Bj (Br (by simp)) hb1.size))|(go_at_call 112;with_reducible refine (hbT.out _).mono ?_;rintro e w2 ⟨rfl,hb2⟩;have kb2:=ab hb2;have p1:=Bg q1 hb2.size;have p2:=Bg q2 hb2.size;have p3:=Bg q3 hb2.size;have p4:=Bg q4 hb2.size;have p5:=Bg q5 hb2.size))
      refine bodyPost_ret (v:=.tuple #[.agg #[.int .i64 0,.bool false,.bool false],.int .i64 5]) (by simp [results,results181,go_sem,kb1,kb2,z0,z1,z2,hl4,hl5,q4,q5]) rfl ⟨by rw [hv.out];simp [db,gw,show ¬sw+tw≤128 from by omega],?_⟩
      exact ad (((ad hw.out (by omega) _ _ _).trans (hb1.mono (by simp;omega))).trans (hb2.mono (by omega))) (by omega) _ _ _
theorem tm (op:Int) (h11:¬op=11) (h25:op<25) (lit:Lt) (head name:ByteArray) (hi lo:Int) (A:Option Addr) (n cap:Nat) (sw tw:Int) (sr sf tr tf:Bool) (w:World) (j r:Rs Ty) (hj1:∀ k,j=.error k→k≠0) (hj2:∀ t,j=.ok t→t=⟨t.w,false,false⟩) (hv:Hid (r=AM op j))
  (hJ:Hid (∀ W,Below w.heap.size w W→Calls prog 214 #[.agg (aO op lit head name hi lo A n cap),.agg #[.int .i64 sw,.bool sr,.bool sf],.agg #[.int .i64 tw,.bool tr,.bool tf]] W fun z w'=>z=.returned (.tuple #[.int .i64 (ub j).1,.int .i64 (ub j).2])∧Below W.heap.size W w')):
  Calls prog 181 #[.agg (aO op lit head name hi lo A n cap),.agg #[.int .i64 sw,.bool sr,.bool sf],.agg #[.int .i64 tw,.bool tr,.bool tf]] w fun e w'=>e=.returned (.tuple #[.agg (gw (db r).1),.int .i64 (db r).2])∧Below w.heap.size w w':=by
 unfold aO
 have h11q:(op==11)=false:=beq_eq_false_iff_ne.2 h11
 have h25q:(op==25)=false:=beq_eq_false_iff_ne.2 (by omega)
 have h26q:(op==26)=false:=beq_eq_false_iff_ne.2 (by omega)
 obtain ⟨wu,hwu,hsu,hbu,hcu,hfu⟩:=al w (aO op lit head name hi lo A n cap) 45
 obtain ⟨wx,hwx,hsx,hbx,hcx,hfx⟩:=al wu #[.int .i64 sw,.bool sr,.bool sf] 75
 obtain ⟨wy,hwy,hsy,hby,hcy,hfy⟩:=al wx #[.int .i64 tw,.bool tr,.bool tf] 75
 obtain ⟨wz,hwz,hsz,hbz,hcz,hfz⟩:=al wy #[.int .i64 0,.bool false,.bool false] 75
 obtain ⟨wn,hwn,hsn,hbn,hcn,hfn⟩:=al wz #[.int .i64 0,.bool false,.bool false] 75
 have hEn:Below wn.heap.size wn wn:=Bi _ _
 have hEz:Below wz.heap.size wz wn:=hbn.trans (hEn.mono (by omega))
 have hEy:Below wy.heap.size wy wn:=hbz.trans (hEz.mono (by omega))
 have hEx:Below wx.heap.size wx wn:=hby.trans (hEy.mono (by omega))
 have hEu:Below wu.heap.size wu wn:=hbx.trans (hEx.mono (by omega))
 have hw:=aa (hbu.trans (hEu.mono (by omega)))
 have cu:=fun i=>(bx hEu w.heap.size i (by omega)).trans (hcu i)
 have cx:=fun i=>(bx hEx wu.heap.size i (by omega)).trans (hcx i)
 have cy:=fun i=>(bx hEy wx.heap.size i (by omega)).trans (hcy i)
 have cz:=fun i=>(bx hEz wy.heap.size i (by omega)).trans (hcz i)
 have hqz:=fun i=>(ss hEz wy.heap.size i (by omega)).trans (hfz i)
 have cn:=fun i=>(bx hEn wz.heap.size i (by omega)).trans (hcn i)
 have hqn:=fun i=>(ss hEn wz.heap.size i (by omega)).trans (hfn i)
 simp only [hsu] at cx
 simp only [hsx,hsu] at cy
 simp only [hsy,hsx,hsu] at cz hqz
 simp only [hsz,hsy,hsx,hsu] at cn hqn
 obtain ⟨u0,u1,u2,u3,u4,u5,u6,u7,u8⟩:=bU cu
 obtain ⟨x0,x1,x2⟩:=bF cx
 obtain ⟨y0,y1,y2⟩:=bF cy
 obtain ⟨z0,z1,z2⟩:=bF cz
 obtain ⟨n0,n1,n2⟩:=bF cn
 have hl1:w.heap.size<wn.heap.size:=by omega
 have hl2:w.heap.size+1<wn.heap.size:=by omega
 have hl3:w.heap.size+1+1<wn.heap.size:=by omega
 have hl4:w.heap.size+1+1+1<wn.heap.size:=by omega
 have hl5:w.heap.size+1+1+1+1<wn.heap.size:=by omega
 clear cu hcu hbu hfu cx hcx hbx hfx cy hcy hby hfy cz hcz hbz hfz cn hcn hbn hfn hEu hEx hEy hEz hEn
 replace hsn:=aa hsn
 cases j with
 |error k=>
  have hk0:=hj1 k rfl
  have hk:(k !=0)=true:=bne_iff_ne.2 hk0
  replace hJ:Hid (∀ W,Below w.heap.size w W→Calls prog _ _ W fun z w'=>z=.returned (.tuple #[.int .i64 0,.int .i64 k])∧Below W.heap.size W w'):=hJ
  clear hj1 hj2 hk0
  go_enter func181,ntmps181
  go_wp2_with (go_at_call 214;refine (hJ.out _ (ad hw.out (by omega) _ _ _)).mono ?_;rintro e w1 ⟨rfl,hb1⟩;have kb1:=ab hb1;have q1:=Bg hl1 (Bj (Br (by simp)) hb1.size);have q2:=Bg hl2 (Bj (Br (by simp)) hb1.size);have q3:=Bg hl3 (Bj (Br (by simp)) hb1.size);have q4:=Bg hl4 (Bj (Br (by simp)) hb1.size);have q5:=Bg hl5 (Bj (Br (by simp)) hb1.size))
  refine bodyPost_ret (v:=.tuple #[.agg #[.int .i64 0,.bool false,.bool false],.int .i64 k]) (by simp [results,results181,go_sem,kb1,z0,z1,z2,hl4,hl5]) rfl ⟨by rw [hv.out];rfl,?_⟩
  exact ad ((ad hw.out (by omega) _ _ _).trans (hb1.mono (by simp;omega))) (by omega) _ _ _
 |ok t=>
  have ht:=hj2 t rfl
  replace hJ:Hid (∀ W,Below w.heap.size w W→Calls prog _ _ W fun z w'=>z=.returned (.tuple #[.int .i64 t.w,.int .i64 0])∧Below W.heap.size W w'):=hJ
  clear hj1 hj2
  generalize t.w=jw at hJ ht
  subst ht
  by_cases h19:19≤op
  ·have h19q:decide (19≤op)=true:=decide_eq_true h19
   have h24:op≤24:=by omega
   go_enter func181,ntmps181
   go_wp2_with (go_at_call 214;refine (hJ.out _ (ad hw.out (by omega) _ _ _)).mono ?_;rintro e w1 ⟨rfl,hb1⟩;have kb1:=ab hb1;have q1:=Bg hl1 (Bj (Br (by simp)) hb1.size);have q2:=Bg hl2 (Bj (Br (by simp)) hb1.size);have q3:=Bg hl3 (Bj (Br (by simp)) hb1.size);have q4:=Bg hl4 (Bj (Br (by simp)) hb1.size);have q5:=Bg hl5 (Bj (Br (by simp)) hb1.size))
   refine bodyPost_ret (v:=.tuple #[.agg #[.int .i64 0,.bool true,.bool false],.int .i64 0]) (by simp [results,results181,go_sem,kb1,z0,z1,z2,hl4,hl5]) rfl ⟨by rw [hv.out];simp [AM,db,gw,h19],?_⟩
   exact ad ((ad hw.out (by omega) _ _ _).trans (hb1.mono (by simp;omega))) (by omega) _ _ _
  ·have h19q:decide (19≤op)=false:=decide_eq_false h19
   replace h19:=aa h19
   go_enter func181,ntmps181
   go_wp2_with (go_at_call 214;refine (hJ.out _ (ad hw.out (by omega) _ _ _)).mono ?_;rintro e w1 ⟨rfl,hb1⟩;have kb1:=ab hb1;have q1:=Bg hl1 (Bj (Br (by simp)) hb1.size);have q2:=Bg hl2 (Bj (Br (by simp)) hb1.size);have q3:=Bg hl3 (Bj (Br (by simp)) hb1.size);have q4:=Bg hl4 (Bj (Br (by simp)) hb1.size);have q5:=Bg hl5 (Bj (Br (by simp)) hb1.size))
   refine bodyPost_ret (v:=.tuple #[.agg #[.int .i64 jw,.bool false,.bool false],.int .i64 0]) (by simp [results,results181,go_sem,kb1,z0,z1,z2,hl4,hl5]) rfl ⟨by rw [hv.out];simp [AM,db,gw,show ¬19≤op from (by have:=h19.out;omega)],?_⟩
   exact ad ((ad hw.out (by omega) _ _ _).trans (hb1.mono (by simp;omega))) (by omega) _ _ _
theorem tn {p:Pg} {act:Int} (hm:dz p=true) (op:Int) (hop:11≤op∧op≤26) (lit:Lt) (head name:ByteArray) (hi lo:Int) (a b:Ex) (l:List Ex) (hea:aT a=true) (heb:aT b=true) (s t:Ty) (hs0:bI p act a=.ok s) (ht0:bI p act b=.ok t) (A:Option Addr) (cap B:Nat) (w:World) (hB:B≤w.heap.size) (hS:Sl 9 dL w B A (a::b::l)):
  Calls prog 181 #[.agg (aO op lit head name hi lo A (a::b::l).length cap),.agg #[.int .i64 s.w,.bool s.truth,.bool s.free],.agg #[.int .i64 t.w,.bool t.truth,.bool t.free]] w fun z w'=>z=.returned (.tuple #[.agg (gw (db (cI op a b s t)).1),.int .i64 (db (cI op a b s t)).2])∧Below w.heap.size w w':=by
 unfold aO
 have hs:cV s:=eu hm act a hea s hs0
 have ht:cV t:=eu hm act b heb t ht0
 have hJ:=aa (fun (W:World) (hW:Below w.heap.size w W)=>re hm op lit head name hi lo a b l hea heb s t hs0 ht0 A cap B W (Bj hB hW.size) (hS.below ai (hW.mono hB)))
 obtain ⟨sw,sr,sf⟩:=s
 obtain ⟨tw,tr,tf⟩:=t
 by_cases h11:op=11
 ·subst h11
  exact xN lit head name hi lo A _ cap sw tw sr sf tr tf (fun h1 h2=>hs.2 h1 h2) (fun h1 h2=>ht.2 h1 h2) w _ (aa (by unfold cI;rw [if_pos rfl]))
 ·by_cases h25:25≤op
  ·rcases (show op=25∨op=26 by omega) with rfl|rfl
   ·exact xL lit head name hi lo A _ cap sw tw sr sf tr tf w _ (aa (by unfold cI;rw [if_neg h11,if_pos h25]))
   ·exact xM lit head name hi lo A _ cap sw tw sr sf tr tf w _ (aa (by unfold cI;rw [if_neg h11,if_pos h25]))
  ·exact tm op h11 (by omega) lit head name hi lo A _ cap sw tw sr sf tr tf w (dy a b ⟨sw,sr,sf⟩ ⟨tw,tr,tf⟩) _ (fun k h=>oN h) (fun t h=>oe h) (aa (by unfold cI;rw [if_neg h11,if_neg h25];cases dy a b ⟨sw,sr,sf⟩ ⟨tw,tr,tf⟩<;>rfl)) hJ
theorem bT {α:Type} {p:α→Bool} {l:List α} {k:Nat} (hk:k<l.length) (h:p l[k]=false):l.all p=false:=by
 rw [List.all_eq_false]
 exact ⟨_,Bv hk,by rw [h];decide⟩
theorem ci {α:Type} {p:α→Bool} {l:List α} {k:Nat} (hk:k<l.length) (h:(l.take k).all p=true) (hp:p l[k]=true):(l.take (k+1)).all p=true:=by
 rw [BO hk,List.all_append,h]
 simp [hp]
theorem cJ {α:Type} {p:α→Bool} {l:List α} {k:Nat} (h:(l.take k).all p=true) (hk:¬k<l.length):l.all p=true:=by
 rw [BB (by omega)] at h;exact h
theorem lr (n:Int) (w:World):Calls prog 167 #[.int .i64 n] w fun e w'=>e=.returned (.bool (cE n))∧w=w':=by
 go_enter func167,ntmps167
 by_cases h1:1≤n
 ·have h1':0<n:=by omega
  by_cases h2:n≤128
  ·have h2':n<129:=by omega
   go_wp2
   go_ret
   exact ⟨ah (by simp [cE,h1,h2]),rfl⟩
  ·have h2':¬n<129:=by omega
   go_wp2
   go_ret
   exact ⟨ah (by simp [cE,h2]),rfl⟩
 ·have h1':¬0<n:=by omega
  go_wp2
  go_ret
  exact ⟨ah (by simp [cE];omega),rfl⟩
theorem eH (l:Lt) (w:World) (hl:em l):Calls prog 173 #[.agg #[.int .i64 l.1,.int .u64 l.2.1,.int .u64 l.2.2]] w fun e w'=>e=.returned (.bool (cr l))∧Below w.heap.size w w':=by
 obtain ⟨wa,hwa,hsa,hba,hca,-⟩:=al w #[.int .i64 l.1,.int .u64 l.2.1,.int .u64 l.2.2] 42
 obtain ⟨x0,x1,x2⟩:=bF hca
 replace hba:=aa hba
 clear hca
 by_cases h0:l.1=0
 ·have hv:=aa (show cr l=true from by simp [cr,h0])
  generalize l.1=n at*
  subst h0
  go_enter func173,ntmps173
  go_wp2
  go_ret
  exact ⟨ah hv.out.symm,hba.out⟩
 ·have h0':(l.1==0)=false:=beq_eq_false_iff_ne.2 h0
  have hW:=lr l.1 wa
  cases hw:cE l.1 with
  |false=>
   rw [hw] at hW
   have hv:=aa (show cr l=false from by simp [cr,h0,hw])
   clear hw h0
   go_enter func173,ntmps173
   go_wp2_with (go_at_call 167;refine hW.mono ?_;rintro e w' ⟨rfl,rfl⟩)
   go_ret
   exact ⟨ah hv.out.symm,hba.out⟩
  |true=>
   rw [hw] at hW
   have hn:1≤l.1∧l.1≤128:=by simpa [cE] using hw
   obtain ⟨n,hn0⟩:=BR (show 0≤l.1 by omega)
   have hF:=iX l n wa hl (by omega) (by omega)
   rw [←hn0] at hF
   have hv:=aa (show cr l=dN l.1 l from by simp [cr,h0,hw])
   generalize dN l.1 l=z at hv hF
   clear hw h0 hn hn0
   go_enter func173,ntmps173
   go_wp2_with (first|(go_at_call 167;refine hW.mono ?_;rintro e w' ⟨rfl,rfl⟩)|(go_at_call 118;refine hF.mono ?_;rintro e w1 ⟨rfl,hb1⟩))
   go_ret
   exact ⟨ah hv.out.symm,hba.out.trans (hb1.mono (by omega))⟩
theorem jJ (s:ByteArray) (w:World):Calls prog 168 #[.string s] w fun e w'=>e=.returned (.bool (bY s))∧Below w.heap.size w w':=by
 have hX:=bG s w
 have hv:bY s=(av s ||(decide (s=pd) ||decide (s=pf))):=by
  unfold bY;cases av s<;>simp
 rw [hv]
 clear hv
 generalize av s=z at hX ⊢
 cases z with
 |true=>
  go_enter func168,ntmps168
  go_wp2_with (go_at_call 100;refine hX.mono ?_;rintro e w1 ⟨rfl,hb1⟩)
  go_ret
  exact ⟨rfl,hb1⟩
 |false=>
  by_cases h1:s=pd
  ·have e1:=fi.1 h1
   have hv:=aa (decide_eq_true h1)
   clear h1
   go_enter func168,ntmps168
   go_wp2_with (go_at_call 100;refine hX.mono ?_;rintro e w1 ⟨rfl,hb1⟩)
   go_ret
   exact ⟨ah (by rw [hv.out];rfl),hb1⟩
  ·have e1:=fun h=>h1 (fi.2 h)
   by_cases h2:s=pf
   ·have e2:=fj.1 h2
    have hv:=aa (decide_eq_true h2)
    clear h1 h2
    go_enter func168,ntmps168
    go_wp2_with (go_at_call 100;refine hX.mono ?_;rintro e w1 ⟨rfl,hb1⟩)
    go_ret
    exact ⟨ah (by rw [hv.out];simp),hb1⟩
   ·have e2:=fun h=>h2 (fj.2 h)
    have hv:=aa (decide_eq_false h1)
    have hv2:=aa (decide_eq_false h2)
    clear h1 h2
    go_enter func168,ntmps168
    go_wp2_with (go_at_call 100;refine hX.mono ?_;rintro e w1 ⟨rfl,hb1⟩)
    go_ret
    exact ⟨ah (by rw [hv.out,hv2.out,beq_eq_false_iff_ne.2 e1,beq_eq_false_iff_ne.2 e2];rfl),hb1⟩
theorem gl {B:Nat} (l:List ByteArray) (A:Option Addr) (cap:Nat) (w:World) (hB:B≤w.heap.size) (h:Sl 1 iy w B A l):
  Calls prog 105 #[.slice A l.length cap] w fun e w'=>e=.returned (.bool (l.all av))∧Below w.heap.size w w':=by
 have hl:=h.len
 have hS:=aa h
 clear h
 go_enter func105,ntmps105
 go_wp2
 go_loopw [3] (fun i wr=>∃ k:Nat,k≤l.length∧i=.int .i64 k∧Hid ((l.take k).all av=true)∧Hid (Below w.heap.size w wr)) (fun i _=>l.length-(intOf i).toNat)
 case atStart=>exact ⟨0,Bo _,rfl,aa (by simp),aa (Bi _ _)⟩
 case round=>
  obtain ⟨k,hk,rfl,hq,hbr⟩:=hrel
  have hc:=ab hbr.out
  have hzr:=hbr.out.size
  by_cases hlt:k<l.length
  ·obtain ⟨b,o,ecs,hA,hb,hel,hcell,rfl,hs⟩:=hS.out.2 k _ (Bk hlt)
   subst hA
   have hltz:(k:Int)<(l.length:Int):=by omega
   have hbw:b<w.heap.size:=by omega
   have x0:w.cell? ⟨b,o+k,none⟩=some (.string l[k]):=by simpa using hcell 0 _ rfl
   have hX:=bG l[k] wr
   clear hcell
   cases hv:av l[k] with
   |false=>
    rw [hv] at hX
    have hr:=aa (bT hlt hv)
    clear hv
    go_wp2_with (go_at_call 100;refine hX.mono ?_;rintro e w1 ⟨rfl,hb1⟩)
    go_ret
    exact ⟨ah hr.out.symm,hbr.out.trans (hb1.mono hzr)⟩
   |true=>
    rw [hv] at hX
    have hr:=aa (ci hlt hq.out hv)
    clear hv
    go_wp2_with (go_at_call 100;refine hX.mono ?_;rintro e w1 ⟨rfl,hb1⟩)
    go_roundw
    case rel=>exact ⟨k+1,by omega,by go_num,hr,aa (hbr.out.trans (hb1.mono hzr))⟩
    case measure=>simp [intOf];omega
  ·go_wp2
   go_ret
   exact ⟨ah (cJ hq.out hlt).symm,hbr.out⟩
theorem fv {B:Nat} (l:List Fd) (A:Option Addr) (cap:Nat) (w:World) (hB:B≤w.heap.size) (h:Sl 2 sq w B A l):
  Calls prog 101 #[.slice A l.length cap] w fun e w'=>e=.returned (.bool (l.all gB))∧Below w.heap.size w w':=by
 have hl:=h.len
 have hS:=aa h
 clear h
 go_enter func101,ntmps101
 go_wp2
 go_loopw [3] (fun i wr=>∃ k:Nat,k≤l.length∧i=.int .i64 k∧Hid ((l.take k).all gB=true)∧Hid (Below w.heap.size w wr)) (fun i _=>l.length-(intOf i).toNat)
 case atStart=>exact ⟨0,Bo _,rfl,aa (by simp),aa (Bi _ _)⟩
 case round=>
  obtain ⟨k,hk,rfl,hq,hbr⟩:=hrel
  have hc:=ab hbr.out
  have hzr:=hbr.out.size
  by_cases hlt:k<l.length
  ·obtain ⟨b,o,ecs,hA,hb,hel,hcell,rfl,hs,-⟩:=hS.out.2 k _ (Bk hlt)
   subst hA
   have hltz:(k:Int)<(l.length:Int):=by omega
   have hbw:b<w.heap.size:=by omega
   have x0:w.cell? ⟨b,o+k*2,none⟩=some (.string l[k].1):=by simpa using hcell 0 _ rfl
   have x1:w.cell? ⟨b,o+k*2+1,none⟩=some (.int .i64 l[k].2):=hcell 1 _ rfl
   have hX0:=bG l[k].1 wr
   have hfd:gB l[k]=(av l[k].1&&cE l[k].2):=rfl
   have hWw:=fun W=>lr l[k].2 W
   have hX:Calls prog 100 #[.string l[k].1] wr fun e w'=>e=.returned (.bool (av l[k].1))∧(Below wr.heap.size wr w'∧Below w.heap.size w w'):=hX0.mono fun e w' h=>⟨h.1,h.2,hbr.out.trans (h.2.mono hzr)⟩
   clear hcell hX0
   cases hv:av l[k].1 with
   |false=>
    rw [hv] at hX hfd
    have hr:=aa (bT (p:=gB) hlt (hfd.trans rfl))
    clear hv hfd
    go_wp2_with (go_at_call 100;refine hX.mono ?_;rintro e w1 ⟨rfl,hb1,hbw1⟩)
    go_ret
    exact ⟨ah hr.out.symm,hbr.out.trans (hb1.mono hzr)⟩
   |true=>
    rw [hv] at hX hfd
    cases hv2:cE l[k].2 with
    |false=>
     rw [hv2] at hWw hfd
     have hr:=aa (bT (p:=gB) hlt (hfd.trans rfl))
     clear hv hfd hv2
     go_wp2_with (first|(go_at_call 100;refine hX.mono ?_;rintro e w1 ⟨rfl,hb1,hbw1⟩;have kb1:=ab hbw1)|(go_at_call 167;refine (hWw _).mono ?_;rintro e w2 ⟨rfl,rfl⟩))
     go_ret
     exact ⟨ah hr.out.symm,hbr.out.trans (hb1.mono hzr)⟩
    |true=>
     rw [hv2] at hWw hfd
     have hr:=aa (ci (p:=gB) hlt hq.out (hfd.trans rfl))
     clear hv hfd hv2
     go_wp2_with (first|(go_at_call 100;refine hX.mono ?_;rintro e w1 ⟨rfl,hb1,hbw1⟩;have kb1:=ab hbw1)|(go_at_call 167;refine (hWw _).mono ?_;rintro e w2 ⟨rfl,rfl⟩))
     go_roundw
     case rel=>exact ⟨k+1,by omega,by go_num,hr,aa (hbr.out.trans (hb1.mono hzr))⟩
     case measure=>simp [intOf];omega
  ·go_wp2
   go_ret
   exact ⟨ah (cJ hq.out hlt).symm,hbr.out⟩
theorem rB (l:List Ex) (x:Ex):bC (l++ [x])=max (bC l) (bQ x):=by
 induction l with
 |nil=>simp [bC]
 |cons y l ih=>simp only [BC,bC,ih];omega
theorem rD {l:List Ex} {k:Nat} (hk:k<l.length):bC (l.take (k+1))=max (bC (l.take k)) (bQ l[k]):=by
 rw [BO hk,rB]
theorem rE (e:Ex):∀ (cs:List Value) (w:World),dL w w.heap.size cs e→Calls prog 211 #[.agg cs.toArray] w fun r w'=>r=.returned (.int .i64 (bQ e:Int))∧Below w.heap.size w w':=by
 induction e using Ex.ind with
 |h op lit head name hi lo args ih=>
  intro cs w h
  have hdm:=h.2
  obtain ⟨A,cap,rfl,-,-,-,-,-,-,hs⟩:=RE.inv h
  have hl:=hs.len
  replace ih:=aa ih
  clear h
  show Calls _ _ #[.agg #[.int .u8 op,.int .i64 lit.1,.int .u64 lit.2.1,.int .u64 lit.2.2,.string head,.string name,.int .i64 hi,.int .i64 lo,.slice A args.length cap]] _ _
  obtain ⟨wb,hwb,hsz,hw,hcb,-⟩:=al w (aO op lit head name hi lo A args.length cap) 45
  have y8:wb.cell? ⟨w.heap.size,8,none⟩=some (.slice A args.length cap):=hcb 8
  have hS:=aa (hs.below ai hw)
  have hv:=aa (show bQ (.mk op lit head name hi lo args)=bC args+1 from by simp only [bQ])
  simp only [bQ] at hdm
  have hmem:=aa (fun k (hk:k<args.length)=>jV (Bv hk))
  replace hw:=aa hw
  clear hcb hs
  go_enter func211,ntmps211
  go_wp2
  go_loopw [3,4] (fun n i wr=>∃ k:Nat,k≤args.length∧i=.int .i64 k∧n=.int .i64 ((bC (args.take k):Int)+1)∧Hid (Below (w.heap.size+1) wb wr)∧w.heap.size+1≤wr.heap.size) (fun _ i _=>args.length-(intOf i).toNat)
  case atStart=>exact ⟨0,Bo _,rfl,by simp [bC],aa (Bi _ _),by omega⟩
  case round=>
   obtain ⟨k,hk,rfl,rfl,hbr,hzr⟩:=hrel
   have hc:=ab hbr.out
   by_cases hlt:k<args.length
   ·obtain ⟨b,o,ecs,hA,hb,hel,hcell,hr⟩:=hS.out.2 k _ (Bk hlt)
    subst hA
    have hltz:(k:Int)<(args.length:Int):=by omega
    match ecs,hel with
    | [a0,a1,a2,a3,a4,a5,a6,a7,a8],_=>
     have x0:wb.cell? ⟨b,o+k*9,none⟩=some a0:=by simpa using hcell 0 a0 rfl
     have x1:wb.cell? ⟨b,o+k*9+1,none⟩=some a1:=by simpa using hcell 1 a1 rfl
     have x2:wb.cell? ⟨b,o+k*9+2,none⟩=some a2:=by simpa using hcell 2 a2 rfl
     have x3:wb.cell? ⟨b,o+k*9+3,none⟩=some a3:=by simpa using hcell 3 a3 rfl
     have x4:wb.cell? ⟨b,o+k*9+4,none⟩=some a4:=by simpa using hcell 4 a4 rfl
     have x5:wb.cell? ⟨b,o+k*9+5,none⟩=some a5:=by simpa using hcell 5 a5 rfl
     have x6:wb.cell? ⟨b,o+k*9+6,none⟩=some a6:=by simpa using hcell 6 a6 rfl
     have x7:wb.cell? ⟨b,o+k*9+7,none⟩=some a7:=by simpa using hcell 7 a7 rfl
     have x8:wb.cell? ⟨b,o+k*9+8,none⟩=some a8:=by simpa using hcell 8 a8 rfl
     have hcall:=ih.out _ (Bv hlt) [a0,a1,a2,a3,a4,a5,a6,a7,a8] wr (ai.more (ai.keep hr fun q hq=>hbr.out.cell (Nat.lt_succ_of_lt hq)) (by omega))
     have ht:=rD hlt
     have hdk:=hmem.out k hlt
     clear hcell hr
     generalize bQ args[k]=d at hcall ht hdk
     generalize bC (args.take k)=n at*
     have hdz:1+(d:Int)≤9223372036854775807:=by unfold sm at hdm;omega
     by_cases hgt:n<d
     ·have hgz:(n:Int)+1<1+(d:Int):=by omega
      have ht':=aa (show ((bC (args.take (k+1)):Nat):Int)+1=1+(d:Int) from by rw [ht];omega)
      clear ht
      go_wp2_with (go_at_call 211;refine hcall.mono ?_;rintro e w' ⟨rfl,hw1⟩)
      go_roundw
      case rel=>exact ⟨k+1,by omega,by go_num,by rw [ht'.out],aa (hbr.out.trans (hw1.mono hzr)),by have:=hw1.size;omega⟩
      case measure=>simp [intOf];omega
     ·have hgz:¬(n:Int)+1<1+(d:Int):=by omega
      have ht':=aa (show ((bC (args.take (k+1)):Nat):Int)+1=(n:Int)+1 from by rw [ht];omega)
      clear ht
      go_wp2_with (go_at_call 211;refine hcall.mono ?_;rintro e w' ⟨rfl,hw1⟩)
      go_roundw
      case rel=>exact ⟨k+1,by omega,by go_num,by rw [ht'.out],aa (hbr.out.trans (hw1.mono hzr)),by have:=hw1.size;omega⟩
      case measure=>simp [intOf];omega
   ·go_wp2
    go_ret
    rw [hv.out,BB (by omega)]
    exact ⟨by simp,hw.out.trans (hbr.out.mono (Nat.le_succ _))⟩
end Go.Proofs.YtbbdhknagofghaaGreat

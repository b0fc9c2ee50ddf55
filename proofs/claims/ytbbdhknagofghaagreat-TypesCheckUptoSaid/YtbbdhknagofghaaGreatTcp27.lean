import Derived.Test.YtbbdhknagofghaaGreatTcp26
set_option linter.all false
set_option maxHeartbeats 4000000
set_option maxRecDepth 100000
open Go.Proofs.Tryz
namespace Go.Proofs.YtbbdhknagofghaaGreat
open _root_.Nat renaming lt_of_lt_of_le→Bg
open _root_.Go.RowKit.Below renaming refl→Bi
open _root_.List renaming isEmpty_iff→Bx
open _root_.Bool renaming eq_false_iff→BD
open Go.RowKit
theorem vF {op:Int} {f:(Bool×Bool×Bool×Bool)×Int} (h:bj op=some f):
  f.1=(false,false,true,false)∨f.1=(true,true,false,false)∨f.1=(false,true,false,false)∨f.1=(false,false,false,false)∨f.1=(true,false,false,false)∨f.1=(false,false,false,true):=by
 unfold bj at h
 repeat' split at h
 all_goals first|(injection h with h;subst h;simp)|(cases h)
def az (h nm l en:Bool) (a:Int) (lit:Lt) (head name:ByteArray) (hi lo:Int) (n:Nat):Bool:=
 decide ((n:Int)=a)&&aK head h&&aK name nm&&(if l then cr lit else decide (lit=fW))&&(if en then decide (0≤lo∧lo≤hi∧hi<128) else decide (hi=0∧lo=0))
theorem xO {op:Int} {h nm l en:Bool} {a:Int} (hf:bj op=some ((h,nm,l,en),a)) (lit:Lt) (head name:ByteArray) (hi lo:Int) (n:Nat):fp op lit head name hi lo n=az h nm l en a lit head name hi lo n:=by
 unfold fp az;rw [hf]
theorem xP {op:Int} (hf:bj op=none) (lit:Lt) (head name:ByteArray) (hi lo:Int) (n:Nat):fp op lit head name hi lo n=false:=by
 unfold fp;rw [hf]
theorem oO {wb W:World} (h:Below wb.heap.size wb W) (o:Obj):Below wb.heap.size wb (W.alloc o):=h.alloc h.size o
theorem it:av aB=false:=by decide+kernel
theorem vG (op:Int) (lit:Lt) (head name:ByteArray) (hi lo:Int) (A:Option Addr) (n cap:Nat) (w:World) (hop:u8 op) (hlit:em lit) (hn:n≤9223372036854775807):
  Calls prog 228 #[.agg (aO op lit head name hi lo A n cap)] w fun e w'=>e=.returned (.bool (fp op lit head name hi lo n))∧Below w.heap.size w w':=by
 unfold aO
 obtain ⟨wb,hwb,hsz,hba,hcb,-⟩:=al w (aO op lit head name hi lo A n cap) 45
 obtain ⟨y0,y1,y2,y3,y4,y5,y6,y7,y8⟩:=bU hcb
 have hb0:Below wb.heap.size wb wb:=Bi _ _
 have hBk:=aa (show ∀ W,Below wb.heap.size wb W→Below w.heap.size w W from fun W hb=>hba.trans (hb.mono (by omega)))
 have hl1:w.heap.size<wb.heap.size:=by omega
 have q1:=aa (fun (W:World) (hb:Below wb.heap.size wb W)=>(bG head W).mono (fun e w' h=>(⟨h.1,hb.trans (h.2.mono hb.size)⟩:e=_∧Below wb.heap.size wb w')))
 have q2:=aa (fun (W:World) (hb:Below wb.heap.size wb W)=>(bG name W).mono (fun e w' h=>(⟨h.1,hb.trans (h.2.mono hb.size)⟩:e=_∧Below wb.heap.size wb w')))
 have q3:=aa (fun (W:World) (hb:Below wb.heap.size wb W)=>(eH lit W hlit).mono (fun e w' h=>(⟨h.1,hb.trans (h.2.mono hb.size)⟩:e=_∧Below wb.heap.size wb w')))
 clear hcb hba hlit
 obtain ⟨ho1,ho2⟩:=hop
 go_enter func228,ntmps228
 go_upto_block 0 with (fail)
 go_cut [3,4,5,6,7] (fun sa sh sn sl se wx=>∃ (a:Int) (h nm l en:Bool),sa=.int .i64 a∧sh=.bool h∧sn=.bool nm∧sl=.bool l∧se=.bool en∧wx=wb∧Hid (bj op=some ((h,nm,l,en),a)))
 case first=>
  clear q1 q2 q3
  by_cases o0:op=1
  focus
   subst o0
   go_wp2
   go_meet
   exact ⟨0,false,false,true,false,rfl,rfl,rfl,rfl,rfl,rfl,aa (by decide)⟩
  rotate_right
  focus
   skip
   by_cases o1:op=2
   focus
    subst o1
    go_wp2
    go_meet
    exact ⟨0,true,true,false,false,rfl,rfl,rfl,rfl,rfl,rfl,aa (by decide)⟩
   rotate_right
   focus
    skip
    by_cases o2:op=3
    focus subst o2
    rotate_right
    focus
     skip
     by_cases o3:op=4
     focus subst o3
     rotate_right
     focus
      skip
      by_cases o4:op=5
      ·subst o4
       go_wp2
       go_meet
       exact ⟨0,false,false,false,false,rfl,rfl,rfl,rfl,rfl,rfl,aa (by decide)⟩
      ·skip
       by_cases o5:op=6
       ·subst o5
        go_wp2
        go_meet
        exact ⟨0,true,false,false,false,rfl,rfl,rfl,rfl,rfl,rfl,aa (by decide)⟩
       ·skip
        have hor:(op==3 ||op==4)=false:=by simp [o2,o3]
        by_cases p1:7≤op∧op≤9
        ·obtain ⟨p2,p3⟩:=p1
         go_wp2
         go_meet
         exact ⟨1,false,false,false,false,rfl,rfl,rfl,rfl,rfl,rfl,aa (by simp [bj,o0,o1,o2,o3,o4,o5,p2,p3])⟩
        ·have hp:=aa p1
         by_cases p0:op=10
         ·subst p0
          clear p1 hor
          go_wp2
          go_meet
          exact ⟨1,false,false,false,true,rfl,rfl,rfl,rfl,rfl,rfl,aa (by decide)⟩
         ·by_cases p4:11≤op∧op≤26
          ·obtain ⟨p5,p6⟩:=p4
           have p7:¬op≤9:=by omega
           have p8:7≤op:=by omega
           clear p1
           go_wp2
           go_meet
           exact ⟨2,false,false,false,false,rfl,rfl,rfl,rfl,rfl,rfl,aa (by simp [bj,o0,o1,o2,o3,o4,o5,p0,p5,p6,p7])⟩
          ·have hv:=aa (xP (op:=op) (by simp [bj,o0,o1,o2,o3,o4,o5,p0,hp.out,p4];try omega) lit head name hi lo n)
           by_cases r1:op≤26
           ·have r2:op<7:=by omega
            have r3:¬7≤op:=by omega
            have r4:¬11≤op:=by omega
            clear p1 p4
            go_wp2
            go_ret
            exact ⟨ah hv.out.symm,hBk.out _ hb0⟩
           ·have r2:7≤op:=by omega
            have r3:¬op≤9:=by omega
            have r4:11≤op:=by omega
            clear p1 p4
            go_wp2
            go_ret
            exact ⟨ah hv.out.symm,hBk.out _ hb0⟩
  all_goals
   go_wp2
   go_meet
   exact ⟨0,false,true,false,false,rfl,rfl,rfl,rfl,rfl,rfl,aa (by decide)⟩
 case rest=>
  obtain ⟨a,h,nm,l,en,rfl,rfl,rfl,rfl,rfl,rfl,hf⟩:=hcut
  have hv0:=aa (xO hf.out lit head name hi lo n)
  have hw6:=vF hf.out
  simp only [Prod.mk.injEq] at hw6
  clear hf
  rcases hw6 with ⟨rfl,rfl,rfl,rfl⟩|⟨rfl,rfl,rfl,rfl⟩|⟨rfl,rfl,rfl,rfl⟩|⟨rfl,rfl,rfl,rfl⟩|⟨rfl,rfl,rfl,rfl⟩|⟨rfl,rfl,rfl,rfl⟩
  rotate_right
  focus
   by_cases ca:(n:Int)=a
   focus
    subst ca
    by_cases e1:head=aB
    focus
     have t1:=ak.1 e1
     by_cases e2:name=aB
     focus
      have t2:=ak.1 e2
      by_cases e3:lit=fW
      focus
       obtain ⟨r1,r2,r3⟩:=(bR lit).1 e3
       replace r1:=eq_true r1
       replace r2:=eq_true r2
       replace r3:=eq_true r3
       by_cases d0:0≤lo
       focus
        skip
        by_cases d1:lo≤hi
        focus
         skip
         by_cases d2:hi≤127
         focus
          skip
          have hv:=aa (show az false false false true (n:Int) lit head name hi lo n=true from by rw [az];simp [aK,e1,e2,e3];try omega)
         rotate_right
         have hv:=aa (show az false false false true (n:Int) lit head name hi lo n=false from by rw [az];simp [aK,e1,e2,e3];try omega)
        rotate_right
        have hv:=aa (show az false false false true (n:Int) lit head name hi lo n=false from by rw [az];simp [aK,e1,e2,e3];try omega)
       rotate_right
       have hv:=aa (show az false false false true (n:Int) lit head name hi lo n=false from by rw [az];simp [aK,e1,e2,e3];try omega)
      rotate_right
      focus
       have hv:=aa (show az false false false true (n:Int) lit head name hi lo n=false from by rw [az];simp [e3])
       have hyy:=aa (fun h=>e3 ((bR lit).2 h))
       by_cases r1:lit.1=0
       focus
        by_cases r2:lit.2.1=0
        focus
         by_cases r3:lit.2.2=0
         focus exact absurd ⟨r1,r2,r3⟩ hyy.out
         rotate_right
         replace r1:=eq_true r1
         replace r2:=eq_true r2
        rotate_right
        replace r1:=eq_true r1
       rotate_right
       focus skip
     rotate_right
     have t2:name.toList.isEmpty=false:=by rw [BD];exact fun h=>e2 (ak.2 (Bx.1 h))
     have hv:=aa (show az false false false true (n:Int) lit head name hi lo n=false from by rw [az];simp [aK,e2])
    rotate_right
    have t1:head.toList.isEmpty=false:=by rw [BD];exact fun h=>e1 (ak.2 (Bx.1 h))
    have hv:=aa (show az false false false true (n:Int) lit head name hi lo n=false from by rw [az];simp [aK,e1])
   rotate_right
   have hv:=aa (show az false false false true a lit head name hi lo n=false from by simp [az,ca])
   have ca':((n:Int)==a)=false:=beq_eq_false_iff_ne.2 ca
  rotate_right
  focus
   by_cases ca:(n:Int)=a
   focus
    subst ca
    by_cases e1:head=aB
    have t1:=ak.1 e1
    have hv:=aa (show az true false false false (n:Int) lit head name hi lo n=false from by rw [az];simp [aK,it,e1])
    rotate_right
    focus
     have t1:head.toList.isEmpty=false:=by rw [BD];exact fun h=>e1 (ak.2 (Bx.1 h))
     by_cases e2:name=aB
     focus
      have t2:=ak.1 e2
      cases hz1:av head
      rw [hz1] at q1
      have hv:=aa (show az true false false false (n:Int) lit head name hi lo n=false from by rw [az];simp [aK,hz1])
      rotate_right
      focus
       rw [hz1] at q1
       by_cases e3:lit=fW
       focus
        obtain ⟨r1,r2,r3⟩:=(bR lit).1 e3
        replace r1:=eq_true r1
        replace r2:=eq_true r2
        replace r3:=eq_true r3
        by_cases d0:hi=0
        focus
         skip
         by_cases d1:lo=0
         focus
          skip
          have hv:=aa (show az true false false false (n:Int) lit head name hi lo n=true from by rw [az];simp [aK,hz1,e2,e3];try omega)
         rotate_right
         have hv:=aa (show az true false false false (n:Int) lit head name hi lo n=false from by rw [az];simp [aK,hz1,e2,e3];try omega)
        rotate_right
        have hv:=aa (show az true false false false (n:Int) lit head name hi lo n=false from by rw [az];simp [aK,hz1,e2,e3];try omega)
       rotate_right
       focus
        have hv:=aa (show az true false false false (n:Int) lit head name hi lo n=false from by rw [az];simp [e3])
        have hyy:=aa (fun h=>e3 ((bR lit).2 h))
        by_cases r1:lit.1=0
        focus
         by_cases r2:lit.2.1=0
         focus
          by_cases r3:lit.2.2=0
          focus exact absurd ⟨r1,r2,r3⟩ hyy.out
          rotate_right
          replace r1:=eq_true r1
          replace r2:=eq_true r2
         rotate_right
         replace r1:=eq_true r1
        rotate_right
        focus skip
     rotate_right
     have t2:name.toList.isEmpty=false:=by rw [BD];exact fun h=>e2 (ak.2 (Bx.1 h))
     have hv:=aa (show az true false false false (n:Int) lit head name hi lo n=false from by rw [az];simp [aK,e2])
   rotate_right
   have hv:=aa (show az true false false false a lit head name hi lo n=false from by simp [az,ca])
   have ca':((n:Int)==a)=false:=beq_eq_false_iff_ne.2 ca
  rotate_right
  focus
   by_cases ca:(n:Int)=a
   focus
    subst ca
    by_cases e1:head=aB
    focus
     have t1:=ak.1 e1
     by_cases e2:name=aB
     focus
      have t2:=ak.1 e2
      by_cases e3:lit=fW
      focus
       obtain ⟨r1,r2,r3⟩:=(bR lit).1 e3
       replace r1:=eq_true r1
       replace r2:=eq_true r2
       replace r3:=eq_true r3
       by_cases d0:hi=0
       focus
        skip
        by_cases d1:lo=0
        focus
         skip
         have hv:=aa (show az false false false false (n:Int) lit head name hi lo n=true from by rw [az];simp [aK,e1,e2,e3];try omega)
        rotate_right
        have hv:=aa (show az false false false false (n:Int) lit head name hi lo n=false from by rw [az];simp [aK,e1,e2,e3];try omega)
       rotate_right
       have hv:=aa (show az false false false false (n:Int) lit head name hi lo n=false from by rw [az];simp [aK,e1,e2,e3];try omega)
      rotate_right
      focus
       have hv:=aa (show az false false false false (n:Int) lit head name hi lo n=false from by rw [az];simp [e3])
       have hyy:=aa (fun h=>e3 ((bR lit).2 h))
       by_cases r1:lit.1=0
       focus
        by_cases r2:lit.2.1=0
        focus
         by_cases r3:lit.2.2=0
         focus exact absurd ⟨r1,r2,r3⟩ hyy.out
         rotate_right
         replace r1:=eq_true r1
         replace r2:=eq_true r2
        rotate_right
        replace r1:=eq_true r1
       rotate_right
       focus skip
     rotate_right
     have t2:name.toList.isEmpty=false:=by rw [BD];exact fun h=>e2 (ak.2 (Bx.1 h))
     have hv:=aa (show az false false false false (n:Int) lit head name hi lo n=false from by rw [az];simp [aK,e2])
    rotate_right
    have t1:head.toList.isEmpty=false:=by rw [BD];exact fun h=>e1 (ak.2 (Bx.1 h))
    have hv:=aa (show az false false false false (n:Int) lit head name hi lo n=false from by rw [az];simp [aK,e1])
   rotate_right
   have hv:=aa (show az false false false false a lit head name hi lo n=false from by simp [az,ca])
   have ca':((n:Int)==a)=false:=beq_eq_false_iff_ne.2 ca
  rotate_right
  focus
   by_cases ca:(n:Int)=a
   focus
    subst ca
    by_cases e1:head=aB
    focus
     have t1:=ak.1 e1
     by_cases e2:name=aB
     have t2:=ak.1 e2
     have hv:=aa (show az false true false false (n:Int) lit head name hi lo n=false from by rw [az];simp [aK,it,e2])
     rotate_right
     focus
      have t2:name.toList.isEmpty=false:=by rw [BD];exact fun h=>e2 (ak.2 (Bx.1 h))
      cases hz2:av name
      rw [hz2] at q2
      have hv:=aa (show az false true false false (n:Int) lit head name hi lo n=false from by rw [az];simp [aK,hz2])
      rotate_right
      focus
       rw [hz2] at q2
       by_cases e3:lit=fW
       focus
        obtain ⟨r1,r2,r3⟩:=(bR lit).1 e3
        replace r1:=eq_true r1
        replace r2:=eq_true r2
        replace r3:=eq_true r3
        by_cases d0:hi=0
        focus
         skip
         by_cases d1:lo=0
         focus
          skip
          have hv:=aa (show az false true false false (n:Int) lit head name hi lo n=true from by rw [az];simp [aK,e1,hz2,e3];try omega)
         rotate_right
         have hv:=aa (show az false true false false (n:Int) lit head name hi lo n=false from by rw [az];simp [aK,e1,hz2,e3];try omega)
        rotate_right
        have hv:=aa (show az false true false false (n:Int) lit head name hi lo n=false from by rw [az];simp [aK,e1,hz2,e3];try omega)
       rotate_right
       focus
        have hv:=aa (show az false true false false (n:Int) lit head name hi lo n=false from by rw [az];simp [e3])
        have hyy:=aa (fun h=>e3 ((bR lit).2 h))
        by_cases r1:lit.1=0
        focus
         by_cases r2:lit.2.1=0
         focus
          by_cases r3:lit.2.2=0
          focus exact absurd ⟨r1,r2,r3⟩ hyy.out
          rotate_right
          replace r1:=eq_true r1
          replace r2:=eq_true r2
         rotate_right
         replace r1:=eq_true r1
        rotate_right
        focus skip
    rotate_right
    have t1:head.toList.isEmpty=false:=by rw [BD];exact fun h=>e1 (ak.2 (Bx.1 h))
    have hv:=aa (show az false true false false (n:Int) lit head name hi lo n=false from by rw [az];simp [aK,e1])
   rotate_right
   have hv:=aa (show az false true false false a lit head name hi lo n=false from by simp [az,ca])
   have ca':((n:Int)==a)=false:=beq_eq_false_iff_ne.2 ca
  rotate_right
  focus
   by_cases ca:(n:Int)=a
   focus
    subst ca
    by_cases e1:head=aB
    have t1:=ak.1 e1
    have hv:=aa (show az true true false false (n:Int) lit head name hi lo n=false from by rw [az];simp [aK,it,e1])
    rotate_right
    focus
     have t1:head.toList.isEmpty=false:=by rw [BD];exact fun h=>e1 (ak.2 (Bx.1 h))
     by_cases e2:name=aB
     have t2:=ak.1 e2
     have hv:=aa (show az true true false false (n:Int) lit head name hi lo n=false from by rw [az];simp [aK,it,e2])
     rotate_right
     focus
      have t2:name.toList.isEmpty=false:=by rw [BD];exact fun h=>e2 (ak.2 (Bx.1 h))
      cases hz1:av head
      rw [hz1] at q1
      have hv:=aa (show az true true false false (n:Int) lit head name hi lo n=false from by rw [az];simp [aK,hz1])
      rotate_right
      focus
       rw [hz1] at q1
       cases hz2:av name
       rw [hz2] at q2
       have hv:=aa (show az true true false false (n:Int) lit head name hi lo n=false from by rw [az];simp [aK,hz2])
       rotate_right
       focus
        rw [hz2] at q2
        by_cases e3:lit=fW
        focus
         obtain ⟨r1,r2,r3⟩:=(bR lit).1 e3
         replace r1:=eq_true r1
         replace r2:=eq_true r2
         replace r3:=eq_true r3
         by_cases d0:hi=0
         focus
          skip
          by_cases d1:lo=0
          focus
           skip
           have hv:=aa (show az true true false false (n:Int) lit head name hi lo n=true from by rw [az];simp [aK,hz1,hz2,e3];try omega)
          rotate_right
          have hv:=aa (show az true true false false (n:Int) lit head name hi lo n=false from by rw [az];simp [aK,hz1,hz2,e3];try omega)
         rotate_right
         have hv:=aa (show az true true false false (n:Int) lit head name hi lo n=false from by rw [az];simp [aK,hz1,hz2,e3];try omega)
        rotate_right
        focus
         have hv:=aa (show az true true false false (n:Int) lit head name hi lo n=false from by rw [az];simp [e3])
         have hyy:=aa (fun h=>e3 ((bR lit).2 h))
         by_cases r1:lit.1=0
         focus
          by_cases r2:lit.2.1=0
          focus
           by_cases r3:lit.2.2=0
           focus exact absurd ⟨r1,r2,r3⟩ hyy.out
           rotate_right
           replace r1:=eq_true r1
           replace r2:=eq_true r2
          rotate_right
          replace r1:=eq_true r1
         rotate_right
         focus skip
   rotate_right
   have hv:=aa (show az true true false false a lit head name hi lo n=false from by simp [az,ca])
   have ca':((n:Int)==a)=false:=beq_eq_false_iff_ne.2 ca
  rotate_right
  focus
   by_cases ca:(n:Int)=a
   focus
    subst ca
    by_cases e1:head=aB
    focus
     have t1:=ak.1 e1
     by_cases e2:name=aB
     focus
      have t2:=ak.1 e2
      cases hz3:cr lit
      rw [hz3] at q3
      have hv:=aa (show az false false true false (n:Int) lit head name hi lo n=false from by rw [az];simp [aK,hz3])
      rotate_right
      focus
       rw [hz3] at q3
       by_cases d0:hi=0
       focus
        skip
        by_cases d1:lo=0
        focus
         skip
         have hv:=aa (show az false false true false (n:Int) lit head name hi lo n=true from by rw [az];simp [aK,e1,e2,hz3];try omega)
        rotate_right
        have hv:=aa (show az false false true false (n:Int) lit head name hi lo n=false from by rw [az];simp [aK,e1,e2,hz3];try omega)
       rotate_right
       have hv:=aa (show az false false true false (n:Int) lit head name hi lo n=false from by rw [az];simp [aK,e1,e2,hz3];try omega)
     rotate_right
     have t2:name.toList.isEmpty=false:=by rw [BD];exact fun h=>e2 (ak.2 (Bx.1 h))
     have hv:=aa (show az false false true false (n:Int) lit head name hi lo n=false from by rw [az];simp [aK,e2])
    rotate_right
    have t1:head.toList.isEmpty=false:=by rw [BD];exact fun h=>e1 (ak.2 (Bx.1 h))
    have hv:=aa (show az false false true false (n:Int) lit head name hi lo n=false from by rw [az];simp [aK,e1])
   rotate_right
   have hv:=aa (show az false false true false a lit head name hi lo n=false from by simp [az,ca])
   have ca':((n:Int)==a)=false:=beq_eq_false_iff_ne.2 ca
  all_goals
   try clear e1
   try clear e2
   try clear e3
   go_wp2_with (first|(go_at_call 100;first|(with_reducible refine (q1.out _ ‹_›).mono ?_;rintro e w1 ⟨rfl,hb1⟩;have kb1:=ab hb1;have zz1:=Bg hl1 hb1.size)|(with_reducible refine (q2.out _ ‹_›).mono ?_;rintro e w2 ⟨rfl,hb2⟩;have kb2:=ab hb2;have zz2:=Bg hl1 hb2.size))|(go_at_call 173;with_reducible refine (q3.out _ (by first|assumption|exact oO ‹_› _)).mono ?_;rintro e w3 ⟨rfl,hb3⟩;have kb3:=ab hb3))
   go_ret
   exact ⟨ah (Eq.trans (by first|rfl|(simp [*];done)|(simp;omega)) (hv0.out.trans hv.out).symm),hBk.out _ (by first|assumption|exact oO ‹_› _)⟩
end Go.Proofs.YtbbdhknagofghaaGreat

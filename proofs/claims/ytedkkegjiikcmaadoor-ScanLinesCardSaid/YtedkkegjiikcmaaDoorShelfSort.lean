/- The library contracts of generic functions of package slices at this seat, laid by the kit's own tool in plain words. -/
